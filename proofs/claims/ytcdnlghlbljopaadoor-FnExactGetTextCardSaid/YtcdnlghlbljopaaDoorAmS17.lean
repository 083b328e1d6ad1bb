/- Soundness of the abstract machine, seventeenth part: the steps of a region that draws its order, and its end. -/
import Derived.Test.YtcdnlghlbljopaaDoorAmS16
namespace Go.AM
open Go Go.RowKit
set_option linter.unusedVariables false
section
variable {P : Program} {ng ro base : Nat} {w0 : World} {ops : Array Oper} {S : Nat → Prop} {es : Nat → Env} {As : Nat → AH} {L : Nat}
variable {m1 : Emb} {w1 : World} {a1 : Act} {D : Nat → Prop} {p : Nat} {m : Emb} {H : AH} {a : Act} {w : World}
/-- An operation that has no effect comes up. -/
theorem Inv.quiet (hk : drawOk ops = true) (hc : Course P ng ro base w0 ops S es As 0 L) (hwf : ∀ k, k ≤ L → Wf (As k)) (hro : ro ≤ (As 0).size) (hok : ∀ o ∈ ops.toList, dstOk a1.tmps.size ng o = true)
    (I : Inv P ng ro base w0 ops es As L m1 w1 a1 D p m H a w) {i : Nat} (h : MayCome ops D i) (hi : i < L) {o : Oper} (ho : ops[i]? = some o) (hn : isEff o.op = false)
    {Q : Exit → Act → World → Prop} {K : Act → World → Prop} (hK : ∀ m' H' a' w', Inv P ng ro base w0 ops es As L m1 w1 a1 (fun x => D x ∨ x = i) p m' H' a' w' → K a' w') : wpOp P ops Q i K a w := by
  have hw := I.wanted hk h (by omega) ho
  unfold wpOp
  simp only [ho, hw]
  have hinL : ∀ x, D x ∨ x = i → x < L := fun x hx => by
    rcases hx with hx | rfl
    · exact I.inL x hx
    · exact hi
  have heffD : ∀ x ox, ops[x]? = some ox → isEff ox.op = true → (D x ∨ x = i) → x < p := fun x ox hox hex hx => by
    rcases hx with hx | rfl
    · exact I.effD x ox hox hex hx
    · rw [ho] at hox; cases hox; rw [hn] at hex; cases hex
  have hlowE : ∀ x ox, ops[x]? = some ox → x < p → isEff ox.op = true ∨ isNew ox.op = true → D x ∨ x = i := fun x ox h1 h2 h3 => .inl (I.lowE x ox h1 h2 h3)
  obtain ⟨o', ho', hs⟩ := hc.step i (Nat.zero_le _) hi
  rw [ho] at ho'; cases ho'
  rcases hs with ⟨hwn, he, hA⟩ | ⟨hwy, v, he, hheld, hs⟩
  · simp only [hwn, Bool.false_eq_true, if_false]
    refine hK m H (a.put o.dst undef) w ⟨h.closed I.closed, hinL, I.pL, heffD, hlowE, I.sim, I.low, ?_, ?_, I.hsize, I.tmps' hk hc h hi ho hok (.refl m) (.undef m) he, put_size.trans I.tsz, put_defers.trans I.dfr, I.step⟩
    · intro x hx hpx b h1 h2
      rcases hx with hx | rfl
      · exact I.up x hx hpx b h1 h2
      · rw [hA] at h2; omega
    · intro b hb
      rcases I.dom b hb with h1 | ⟨x, h1, h2⟩
      · exact .inl h1
      · exact .inr ⟨x, .inl h1, h2⟩
  · simp only [hwy, if_true]
    left
    rcases hs with ⟨_, hop⟩ | ⟨hn', _⟩
    · have hlook := I.look hk hc hwf h hi ho hn hheld hok
      have hev := I.evals hk h (by omega) ho hok
      have fin : ∀ {m' : Emb} {w' : World} {H' : AH} {v' : Value}, Step ng ro base w0 m H w m' H' w' → VRel m' v v' → (∀ b, b < (As p).size → H'.get b = H.get b) →
          (∀ x, D x → p ≤ x → ∀ b, (As x).size ≤ b → b < (As (x + 1)).size → H'.get b = H.get b) → (p ≤ i → ∀ b, (As i).size ≤ b → b < (As (i + 1)).size → H'.get b = (As (i + 1)).get b) →
          (∀ b, m'.dom b → m.dom b ∨ (p ≤ i ∧ (As i).size ≤ b ∧ b < (As (i + 1)).size)) → K (a.put o.dst v') w' := by
        intro m' w' H' v' hst hv' q1 q2 q3 q4
        refine hK m' H' (a.put o.dst v') w' ⟨h.closed I.closed, hinL, I.pL, heffD, hlowE, hst.sim, fun b hb => (q1 b hb).trans (I.low b hb), ?_, ?_, Nat.le_trans I.hsize hst.sz, I.tmps' hk hc h hi ho hok hst.le hv' he,
          put_size.trans I.tsz, put_defers.trans I.dfr, I.step.trans hst⟩
        · intro x hx hpx b h1 h2
          rcases hx with hx | rfl
          · rw [q2 x hx hpx b h1 h2]; exact I.up x hx hpx b h1 h2
          · exact q3 hpx b h1 h2
        · intro b hb
          rcases q4 b hb with hb | ⟨h1, h2, h3⟩
          · rcases I.dom b hb with h1 | ⟨x, h1, h2⟩
            · exact .inl h1
            · exact .inr ⟨x, .inl h1, h2⟩
          · exact .inr ⟨i, .inr rfl, h1, h2, h3⟩
      rcases quiet_at hn hop H hlook with ⟨hA, hop'⟩ | ⟨hnew, ob, hA, hop'⟩
      · obtain ⟨m', w', n, v', g1, g2, g3, g4, g5⟩ := op_ok (P := P) I.sim I.sim.fresh I.sim.rl hev (hop' H.size)
        have hdom : ∀ b, m'.dom b → m.dom b := by
          intro b hb
          have hlt := g3.sim.dlt b hb
          have : m.dom b ∨ b = H.size := by rcases g5 with g5 | g5 <;> exact g5 b hb
          rcases this with h1 | h1
          · exact h1
          · omega
        have hK' := fin g3 g4 (fun _ _ => rfl) (fun _ _ _ _ _ _ => rfl) (fun _ b h1 h2 => by rw [hA] at h2; omega) (fun b hb => .inl (hdom b hb))
        unfold Oper.wp
        rw [g1]
        rcases g2 with rfl | ⟨rfl, rfl⟩
        · exact hK'
        · exact hK'
      · have hpi : p ≤ i := by
          rcases Nat.lt_or_ge i p with h' | h'
          · exact absurd (I.lowE i o ho h' (.inr hnew)) h.1
          · exact h'
        have hsz : (As (i + 1)).size = (As i).size + 1 := by rw [hA]; show max _ _ = _; omega
        have hfresh : ¬ m.dom (As i).size := by
          intro hd
          rcases I.dom _ hd with h1 | ⟨x, hDx, hpx, h1, h2⟩
          · have := hc.mono p i hpi (by omega); omega
          · rcases Nat.lt_trichotomy x i with hx | hx | hx
            · have := hc.mono (x + 1) i (by omega) (by omega); omega
            · subst hx; exact h.1 hDx
            · have := hc.mono (i + 1) x (by omega) (Nat.le_of_lt (I.inL x hDx)); omega
        obtain ⟨m', w', n, v', g1, g2, g3, g4, g5⟩ := op_ok (P := P) I.sim hfresh (Nat.le_trans hro (hc.mono 0 i (by omega) (by omega))) hev hop'
        have hHs : (H.newAt (As i).size ob).size = H.size := by
          have := hc.mono (i + 1) L (by omega) (Nat.le_refl _)
          have := I.hsize
          show max _ _ = _; omega
        have hdom : ∀ b, m'.dom b → m.dom b ∨ (p ≤ i ∧ (As i).size ≤ b ∧ b < (As (i + 1)).size) := by
          intro b hb
          have hlt := g3.sim.dlt b hb
          rw [hHs] at hlt
          rcases g5 with g5 | g5
          · rcases g5 b hb with h1 | h1
            · exact .inl h1
            · exact .inr ⟨hpi, by omega, by omega⟩
          · rcases g5 b hb with h1 | h1
            · exact .inl h1
            · omega
        have hK' := fin g3 g4 (fun b hb => AH.get_new_ne (by have := hc.mono p i hpi (by omega); omega)) (fun x hDx hpx b h1 h2 => AH.get_new_ne (by
            rcases Nat.lt_trichotomy x i with hx | hx | hx
            · have := hc.mono (x + 1) i (by omega) (by omega); omega
            · subst hx; exact absurd hDx h.1
            · have := hc.mono (i + 1) x (by omega) (Nat.le_of_lt (I.inL x hDx)); omega))
          (fun _ b h1 h2 => by
            obtain rfl : b = (As i).size := by omega
            rw [AH.get_new, hA, AH.get_new]) hdom
        unfold Oper.wp
        rw [g1]
        rcases g2 with rfl | ⟨rfl, rfl⟩
        · exact hK'
        · exact hK'
    · rw [hn] at hn'; cases hn'
/-- Where an operation with an effect may come up, the world's heap is that of the text's order, but for what lies beyond. -/
theorem Inv.agree (hk : drawOk ops = true) (hc : Course P ng ro base w0 ops S es As 0 L) (I : Inv P ng ro base w0 ops es As L m1 w1 a1 D p m H a w) {j : Nat} (hpj : p ≤ j) (hjL : j ≤ L)
    (hq : ∀ x ox, p ≤ x → x < j → ops[x]? = some ox → isEff ox.op = false ∧ (isNew ox.op = true → D x)) : ∀ b, b < (As j).size → H.get b = (As j).get b := by
  induction j with
  | zero =>
    have : p = 0 := by omega
    subst this
    exact I.low
  | succ j ih =>
    by_cases hp : p = j + 1
    · subst hp; exact I.low
    · intro b hb
      have ih' := ih (by omega) (by omega) (fun x ox h1 h2 => hq x ox h1 (by omega))
      obtain ⟨o, ho, hsz, hheap⟩ := hc.heap j (by omega)
      obtain ⟨h1, h2⟩ := hq j o (by omega) (by omega) ho
      rcases hheap h1 with hA | ⟨hnew, ob, hA⟩
      · rw [hA] at hb ⊢; exact ih' b hb
      · by_cases hbj : b < (As j).size
        · rw [ih' b hbj, hA, AH.get_new_ne (by omega)]
        · exact I.up j (h2 hnew) (by omega) b (by omega) hb
theorem Inv.chain (hk : drawOk ops = true) (I : Inv P ng ro base w0 ops es As L m1 w1 a1 D p m H a w) {j : Nat} (h : MayCome ops D j) {o : Oper} (ho : ops[j]? = some o) (hn : isEff o.op = true) :
    p ≤ j ∧ ∀ x ox, x < j → ops[x]? = some ox → (isEff ox.op = true ∨ isNew ox.op = true) → D x := by
  refine ⟨?_, ?_⟩
  · rcases Nat.lt_or_ge j p with h' | h'
    · exact absurd (I.lowE j o ho h' (.inl hn)) h.1
    · exact h'
  · intro x ox hx hox hex
    rcases drawOk_pair hk hox ho hx with hb | ⟨hne, _⟩
    · exact h.bits hk I.closed x hb
    · exact absurd ⟨hn, hex⟩ hne
/-- The world, seen from an operation with an effect. -/
theorem Inv.cut (hk : drawOk ops = true) (hc : Course P ng ro base w0 ops S es As 0 L) (hok : ∀ o ∈ ops.toList, dstOk a1.tmps.size ng o = true) (hgl : ∀ g, g < ng → g < (As 0).size) (h01 : ∀ b, m1.dom b → b < (As 0).size)
    (I : Inv P ng ro base w0 ops es As L m1 w1 a1 D p m H a w) {j : Nat} (hpj : p ≤ j) (hjL : j ≤ L) (hq : ∀ x ox, p ≤ x → x < j → ops[x]? = some ox → isEff ox.op = false ∧ (isNew ox.op = true → D x))
    {mc : Emb} {wc : World} (hmc : Sim ng ro base w0 mc (As j) wc) :
    Sim ng ro base w0 (m.cut (As j).size) (As j) w ∧ Step ng ro base w0 m1 (As 0) w1 (m.cut (As j).size) (As j) w := by
  have hag := I.agree hk hc hpj hjL hq
  have h0j := hc.mono 0 j (by omega) hjL
  have hS := I.sim.cut hmc hag (fun g hg => Nat.lt_of_lt_of_le (hgl g hg) h0j)
  have hl : ∀ b, (As j).get b ≠ .dead → H.get b ≠ .dead := fun b hb => by rw [hag b (hmc.live_lt hb)]; exact hb
  refine ⟨hS, ⟨⟨fun b hb => ⟨I.step.le.dom b hb, Nat.lt_of_lt_of_le (h01 b hb) h0j⟩, I.step.le.r, I.step.le.s, I.step.le.k, I.step.le.e⟩, hS, h0j, I.step.hsz, I.step.frame, fun b hb => I.step.img b (hl b hb)⟩⟩
/-- An operation with an effect comes up. -/
theorem Inv.eff (hk : drawOk ops = true) (hc : Course P ng ro base w0 ops S es As 0 L) (hok : ∀ o ∈ ops.toList, dstOk a1.tmps.size ng o = true) (hgl : ∀ g, g < ng → g < (As 0).size) (h01 : ∀ b, m1.dom b → b < (As 0).size)
    (hro : ro ≤ (As 0).size) (hcanon : ∀ k, k ≤ L → ∃ mk wk ak, Sim ng ro base w0 mk (As k) wk ∧ EnvRel mk (es k) (Act.tmps ak) ∧ ak.tmps.size = a1.tmps.size)
    (I : Inv P ng ro base w0 ops es As L m1 w1 a1 D p m H a w) {i : Nat} (h : MayCome ops D i) (hi : i < L) {o : Oper} (ho : ops[i]? = some o) (hn : isEff o.op = true)
    {Q : Exit → Act → World → Prop} {K : Act → World → Prop} (hK : ∀ m' H' a' w', Inv P ng ro base w0 ops es As L m1 w1 a1 (fun x => D x ∨ x = i) (i + 1) m' H' a' w' → K a' w') : wpOp P ops Q i K a w := by
  have hw := I.wanted hk h (by omega) ho
  obtain ⟨hpi, hch⟩ := I.chain hk h ho hn
  have hq : ∀ x ox, p ≤ x → x < i → ops[x]? = some ox → isEff ox.op = false ∧ (isNew ox.op = true → D x) := by
    intro x ox h1 h2 hox
    refine ⟨?_, fun hnw => hch x ox h2 hox (.inr hnw)⟩
    cases hex : isEff ox.op with
    | false => rfl
    | true => have := I.effD x ox hox hex (hch x ox h2 hox (.inl hex)); omega
  have hag := I.agree hk hc hpi (by omega) hq
  have hinL : ∀ x, D x ∨ x = i → x < L := fun x hx => by
    rcases hx with hx | rfl
    · exact I.inL x hx
    · exact hi
  have heffD : ∀ x ox, ops[x]? = some ox → isEff ox.op = true → (D x ∨ x = i) → x < i + 1 := fun x ox hox hex hx => by
    rcases hx with hx | rfl
    · have := I.effD x ox hox hex hx; omega
    · omega
  have hlowE : ∀ x ox, ops[x]? = some ox → x < i + 1 → isEff ox.op = true ∨ isNew ox.op = true → D x ∨ x = i := fun x ox h1 h2 h3 => by
    by_cases hx : x = i
    · exact .inr hx
    · exact .inl (hch x ox (by omega) h1 h3)
  unfold wpOp
  simp only [ho, hw]
  obtain ⟨o', ho', hs⟩ := hc.step i (Nat.zero_le _) hi
  rw [ho] at ho'; cases ho'
  rcases hs with ⟨hwn, he, hA⟩ | ⟨hwy, v, he, hheld, hs⟩
  · simp only [hwn, Bool.false_eq_true, if_false]
    refine hK m H (a.put o.dst undef) w ⟨h.closed I.closed, hinL, by omega, heffD, hlowE, I.sim, ?_, ?_, ?_, I.hsize, I.tmps' hk hc h hi ho hok (.refl m) (.undef m) he, put_size.trans I.tsz, put_defers.trans I.dfr, I.step⟩
    · intro b hb; rw [hA] at hb ⊢; exact hag b hb
    · intro x hx hpx b h1 h2
      rcases hx with hx | rfl
      · exact I.up x hx (by omega) b h1 h2
      · omega
    · intro b hb
      rcases I.dom b hb with h1 | ⟨x, h1, h2, h3, h4⟩
      · left; have := hc.mono p (i + 1) (by omega) (by omega); omega
      · rcases Nat.lt_trichotomy x i with hx | hx | hx
        · left; have := hc.mono (x + 1) (i + 1) (by omega) (by omega); omega
        · subst hx; exact absurd h1 h.1
        · exact .inr ⟨x, .inl h1, by omega, h3, h4⟩
  · simp only [hwy, if_true]
    left
    rcases hs with ⟨hn', _⟩ | ⟨_, hop, hgrow⟩
    · rw [hn] at hn'; cases hn'
    · obtain ⟨mc, wc, ac, c1, c2, c3⟩ := hcanon i (by omega)
      obtain ⟨hS, _⟩ := I.cut hk hc hok hgl h01 hpi (by omega) hq c1
      have ho2 := hok o (by have := Array.mem_of_getElem? ho; simpa using this)
      have hevc := AM.evals c1 c2 (o := o) (n := ac.tmps.size) (by rw [c3]; exact ho2)
      have hev := I.evals hk h (by omega) ho hok
      refine hop (m.cut (As i).size) w a hS (fun x hx => VRel.cut c1.dlt (hev x hx) (hevc x hx)) K Q fun m2 w' v' hst hv' => ?_
      have hiL := hc.mono (i + 1) L (by omega) (Nat.le_refl _)
      have hHL := I.hsize
      have hi1 := hc.mono i (i + 1) (by omega) (by omega)
      -- the world behind the operation, with what had come up early
      have early : ∀ b, m.dom b → (As i).size ≤ b → (As (i + 1)).size ≤ b ∧ ∃ x, D x ∧ i + 1 ≤ x ∧ (As x).size ≤ b ∧ b < (As (x + 1)).size := by
        intro b hb hbi
        rcases I.dom b hb with h1 | ⟨x, h1, h2, h3, h4⟩
        · have := hc.mono p i hpi (by omega); omega
        · have hx : i < x := by
            rcases Nat.lt_trichotomy x i with hx | hx | hx
            · have := hc.mono (x + 1) i (by omega) (by omega); omega
            · subst hx; exact absurd h1 h.1
            · exact hx
          have := hc.mono (i + 1) x (by omega) (Nat.le_of_lt (I.inL x h1))
          exact ⟨by omega, x, h1, by omega, h3, h4⟩
      let N := (As (i + 1)).size
      let m' : Emb := { dom := fun b => m2.dom b ∨ (m.dom b ∧ (As i).size ≤ b), r := fun b => if b < N then m2.r b else m.r b, s := fun b => if b < N then m2.s b else m.s b, k := fun b => if b < N then m2.k b else m.k b, e := fun b => if b < N then m2.e b else m.e b }
      let H' : AH := ⟨fun b => if b < N then (As (i + 1)).get b else H.get b, H.size⟩
      have hm2lt : ∀ b, m2.dom b → b < N := fun b hb => hst.sim.dlt b hb
      have hmm : ∀ b, m.dom b → (b < N → m2.dom b ∧ m2.r b = m.r b ∧ m2.s b = m.s b ∧ m2.k b = m.k b ∧ m2.e b = m.e b) ∧ m'.dom b := by
        intro b hb
        by_cases hbi : b < (As i).size
        · have hcut : (m.cut (As i).size).dom b := ⟨hb, hbi⟩
          exact ⟨fun _ => ⟨hst.le.dom b hcut, hst.le.r b hcut, hst.le.s b hcut, hst.le.k b hcut, hst.le.e b hcut⟩, .inl (hst.le.dom b hcut)⟩
        · have := (early b hb (by omega)).1
          exact ⟨fun hbN => absurd hbN (by show ¬ b < N; omega), .inr ⟨hb, by omega⟩⟩
      have hle : m.Le m' := by
        refine ⟨fun b hb => (hmm b hb).2, fun b hb => ?_, fun b hb => ?_, fun b hb => ?_, fun b hb => ?_⟩ <;> (show (if b < N then _ else _) = _) <;> (by_cases hbN : b < N <;> simp only [hbN, if_true, if_false])
        · exact ((hmm b hb).1 hbN).2.1
        · exact ((hmm b hb).1 hbN).2.2.1
        · exact ((hmm b hb).1 hbN).2.2.2.1
        · exact ((hmm b hb).1 hbN).2.2.2.2
      have hle2 : m2.Le m' := ⟨fun b hb => .inl hb, fun b hb => if_pos (hm2lt b hb), fun b hb => if_pos (hm2lt b hb), fun b hb => if_pos (hm2lt b hb), fun b hb => if_pos (hm2lt b hb)⟩
      have hlo : ∀ b, b < N → H'.get b = (As (i + 1)).get b := fun b hb => if_pos hb
      have hhi : ∀ b, ¬ b < N → H'.get b = H.get b := fun b hb => if_neg hb
      have hliveI : ∀ b, (As i).get b ≠ .dead → H.get b ≠ .dead := fun b hb => by rw [hag b (c1.live_lt hb)]; exact hb
      have hroN : ro ≤ N := Nat.le_trans hro (hc.mono 0 (i + 1) (by omega) (by omega))
      -- the early blocks lie apart from all that the operation may touch
      have apart : ∀ b, ¬ b < N → H.get b ≠ .dead → ∀ b0, (As i).get b0 ≠ .dead → m.r b0 ≠ m.r b := by
        intro b hb hl b0 hb0 he0
        have hb0i := c1.live_lt hb0
        have hb0l := hliveI b0 hb0
        have hbro : ro ≤ b := by omega
        rcases Nat.lt_or_ge b0 ro with h1 | h1
        · have := I.sim.lo b0 hb0l h1; have := I.sim.rw b hl hbro; omega
        · have := I.sim.inj b0 b hb0l hl h1 hbro he0; omega
      have hrow : ∀ b, ¬ b < N → H.get b ≠ .dead → w'.heap[m.r b]? = w.heap[m.r b]? := fun b hb hl =>
        hst.frame (m.r b) (I.sim.lt hl) (fun b0 hb0 => apart b hb hl b0 hb0)
      have hr' : ∀ b, ¬ b < N → m'.r b = m.r b := fun b hb => if_neg hb
      have hr2 : ∀ b, b < N → m'.r b = m2.r b := fun b hb => if_pos hb
      have hS' : Sim ng ro base w0 m' H' w' := by
        refine ⟨fun g hg => ?_, ?_, ?_, ?_, ?_, ?_, ?_, hst.sim.bl, I.sim.rl, hst.sim.old⟩
        · obtain ⟨h1, h2, h3⟩ := I.sim.glob g hg
          exact ⟨hle.dom g h1, (hle.r g h1).trans h2, (hle.s g h1).trans h3⟩
        · rintro b (hb | ⟨hb, _⟩)
          · have := hm2lt b hb; show b < H.size; omega
          · exact I.sim.dlt b hb
        · intro b c e hb
          by_cases hbN : b < N
          · rw [hlo b hbN] at hb
            obtain ⟨g1, c', el, fz, g2, g3, g4, g5, g6, g7⟩ := hst.sim.cells b c e hb
            exact ⟨hle2.dom b g1, c', el, fz, by rw [hle2.r b g1]; exact g2, by rw [hle2.e b g1]; exact g3, by rw [hle2.k b g1]; exact g4, by rw [hle2.s b g1]; exact g5, by rw [hle2.s b g1]; exact g6.mono hle2, g7⟩
          · rw [hhi b hbN] at hb
            obtain ⟨g1, c', el, fz, g2, g3, g4, g5, g6, g7⟩ := I.sim.cells b c e hb
            exact ⟨hle.dom b g1, c', el, fz, by rw [hle.r b g1, hrow b hbN (by rw [hb]; simp)]; exact g2, by rw [hle.e b g1]; exact g3, by rw [hle.k b g1]; exact g4, by rw [hle.s b g1]; exact g5,
              by rw [hle.s b g1]; exact g6.mono hle, g7⟩
        · intro b xs hb
          by_cases hbN : b < N
          · rw [hlo b hbN] at hb
            obtain ⟨g1, es', cl, g2, g3⟩ := hst.sim.maps b xs hb
            exact ⟨hle2.dom b g1, es', cl, by rw [hle2.r b g1]; exact g2, g3.mono hle2⟩
          · rw [hhi b hbN] at hb
            obtain ⟨g1, es', cl, g2, g3⟩ := I.sim.maps b xs hb
            exact ⟨hle.dom b g1, es', cl, by rw [hle.r b g1, hrow b hbN (by rw [hb]; simp)]; exact g2, g3.mono hle⟩
        · intro b hb hbo
          by_cases hbN : b < N
          · rw [hlo b hbN] at hb; rw [hr2 b hbN]; exact hst.sim.rw b hb hbo
          · rw [hhi b hbN] at hb; rw [hr' b hbN]; exact I.sim.rw b hb hbo
        · have cross : ∀ b b', b < N → ¬ b' < N → (As (i + 1)).get b ≠ .dead → H.get b' ≠ .dead → m2.r b ≠ m.r b' := by
            intro b b' hb hb' hl hl' he'
            rcases hst.img b hl with ⟨b0, h0, h1⟩ | h1
            · exact apart b' hb' hl' b0 h0 (h1.trans he')
            · have := I.sim.lt hl'; omega
          intro b b' hb hb' hbo hbo' he'
          by_cases hbN : b < N <;> by_cases hbN' : b' < N
          · rw [hlo b hbN] at hb; rw [hlo b' hbN'] at hb'; rw [hr2 b hbN, hr2 b' hbN'] at he'; exact hst.sim.inj b b' hb hb' hbo hbo' he'
          · rw [hlo b hbN] at hb; rw [hhi b' hbN'] at hb'; rw [hr2 b hbN, hr' b' hbN'] at he'; exact absurd he' (cross b b' hbN hbN' hb hb')
          · rw [hhi b hbN] at hb; rw [hlo b' hbN'] at hb'; rw [hr' b hbN, hr2 b' hbN'] at he'; exact absurd he'.symm (cross b' b hbN' hbN hb' hb)
          · rw [hhi b hbN] at hb; rw [hhi b' hbN'] at hb'; rw [hr' b hbN, hr' b' hbN'] at he'; exact I.sim.inj b b' hb hb' hbo hbo' he'
        · intro b hb hbo
          have hbN : b < N := by omega
          rw [hlo b hbN] at hb; rw [hr2 b hbN]; exact hst.sim.lo b hb hbo
      have hstep : Step ng ro base w0 m H w m' H' w' := by
        refine ⟨hle, hS', Nat.le_refl _, hst.hsz, fun r hr hn' => hst.frame r hr (fun b hb => hn' b (hliveI b hb)), fun b hb => ?_⟩
        by_cases hbN : b < N
        · rw [hlo b hbN] at hb
          rcases hst.img b hb with ⟨b0, h0, h1⟩ | h1
          · exact .inl ⟨b0, hliveI b0 h0, by rw [hr2 b hbN]; exact h1⟩
          · exact .inr (by rw [hr2 b hbN]; exact h1)
        · rw [hhi b hbN] at hb
          exact .inl ⟨b, hb, (hr' b hbN).symm⟩
      refine hK m' H' (a.put o.dst v') w' ⟨h.closed I.closed, hinL, by omega, heffD, hlowE, hS', hlo, ?_, ?_, I.hsize, I.tmps' hk hc h hi ho hok hle (hv'.mono hle2) he, put_size.trans I.tsz, put_defers.trans I.dfr, I.step.trans hstep⟩
      · intro x hx hpx b h1 h2
        rcases hx with hx | rfl
        · have := hc.mono (i + 1) x (by omega) (Nat.le_of_lt (I.inL x hx))
          rw [hhi b (by show ¬ b < N; omega)]
          exact I.up x hx (by omega) b h1 h2
        · omega
      · rintro b (hb | ⟨hb, hbi⟩)
        · exact .inl (hm2lt b hb)
        · obtain ⟨_, x, h1, h2, h3, h4⟩ := early b hb hbi
          exact .inr ⟨x, .inl h1, h2, h3, h4⟩
end
end Go.AM
