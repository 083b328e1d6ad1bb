/- Soundness of the abstract machine, sixteenth part: whatever order a region draws, its end is that of the text's order. -/
import Derived.Test.YtcdnlghlbljopaaDoorAmS15
namespace Go.AM
open Go Go.RowKit
set_option linter.unusedVariables false
section
variable {P : Program} {ng ro base : Nat} {w0 : World} {ops : Array Oper} {S : Nat → Prop} {es : Nat → Env} {As : Nat → AH} {L : Nat}
theorem bit_lt {ops : Array Oper} (hk : drawOk ops = true) {i j : Nat} (h : bitAt (Region.before ops) j i = true) : i < j :=
  (Closed.bit (D := fun _ => True) (fun _ _ _ _ _ _ _ => trivial) hk j trivial i h).2
/-- What is looked at is told by an operand. -/
theorem reads_dom {e : Env} {op : Op} {b : Nat} (h : readsAt e op = some b) {m : Emb} {a : Act} (ev : ∀ x, x ∈ op.operands.toList → VRel m (e.eval x) (a.eval x)) : m.dom b := by
  cases op <;> simp only [readsAt] at h <;> try (cases h; done)
  case load t x =>
    split at h
    · rename_i p hp
      cases h
      have := ev x (by simp [Op.operands])
      rw [hp] at this
      obtain ⟨b, o, rfl, _, hd⟩ := this.ptr_inv
      exact hd
    · cases h
  case convert s d x =>
    split at h
    · rename_i p n c hp
      split at h
      · cases h
      · rename_i hn
        cases h
        have := ev x (by simp [Op.operands])
        rw [hp] at this
        generalize a.eval x = v' at this
        cases this with
        | slEmpty _ p' _ _ _ => exact absurd rfl hn
        | slExact b o _ _ hd _ _ => exact hd
        | slBig b o _ _ hd _ _ => exact hd
    · cases h
  case slice t x lo hi mx =>
    split at h
    · rename_i p n c hp
      split at h
      · cases h
      · rename_i hc
        cases h
        have := ev x (by simp [Op.operands])
        rw [hp] at this
        generalize a.eval x = v' at this
        cases this with
        | slEmpty _ p' _ h1 h2 =>
          rcases h1 with rfl | rfl
          · exact absurd (by unfold BIG; omega) hc
          · exact h2 rfl
        | slExact b o _ _ hd h1 _ => exact hd
        | slBig b o _ _ hd _ _ => exact hd
    · cases h
  case lookup t x y ok =>
    split at h
    · rename_i r hp
      cases h
      have := ev x (by simp [Op.operands])
      rw [hp] at this
      generalize a.eval x = v' at this
      cases this with | map _ hd => exact hd
    · cases h
  case call c =>
    split at h
    · rename_i x hc hx
      split at h
      · rename_i r hp
        cases h
        have := ev x (by simp [Op.operands, Call.operands, hc, hx])
        rw [hp] at this
        generalize a.eval x = v' at this
        cases this with | map _ hd => exact hd
      · cases h
    · cases h
theorem reads_isRead {e : Env} {op : Op} {b : Nat} (h : readsAt e op = some b) : isRead op = true := by
  cases op <;> simp only [readsAt] at h <;> try (cases h; done)
  all_goals try rfl
  case call c =>
    split at h
    · rename_i x hc hx; simp [isRead, hc]
    · cases h
/-- How the world stands when the numbers in D have come up; p: behind the last of them that has an effect. -/
structure Inv (P : Program) (ng ro base : Nat) (w0 : World) (ops : Array Oper) (es : Nat → Env) (As : Nat → AH) (L : Nat) (m1 : Emb) (w1 : World) (a1 : Act) (D : Nat → Prop) (p : Nat) (m : Emb) (H : AH) (a : Act) (w : World) : Prop where
  closed : Closed ops D
  inL : ∀ i, D i → i < L
  pL : p ≤ L
  effD : ∀ i o, ops[i]? = some o → isEff o.op = true → D i → i < p
  lowE : ∀ i o, ops[i]? = some o → i < p → isEff o.op = true ∨ isNew o.op = true → D i
  sim : Sim ng ro base w0 m H w
  low : ∀ b, b < (As p).size → H.get b = (As p).get b
  up : ∀ i, D i → p ≤ i → ∀ b, (As i).size ≤ b → b < (As (i + 1)).size → H.get b = (As (i + 1)).get b
  dom : ∀ b, m.dom b → b < (As p).size ∨ ∃ i, D i ∧ p ≤ i ∧ (As i).size ≤ b ∧ b < (As (i + 1)).size
  hsize : (As L).size ≤ H.size
  tmps : ∀ t k, k ≤ L → (∀ i o, i < k → ops[i]? = some o → o.dst = some t → D i) → (∀ i o, k ≤ i → ops[i]? = some o → o.dst = some t → ¬ D i) → VRel m (es k t) (a.tmps.getD t undef)
  tsz : a.tmps.size = a1.tmps.size
  dfr : a.defers = a1.defers
  step : Step ng ro base w0 m1 (As 0) w1 m H w
variable {m1 : Emb} {w1 : World} {a1 : Act} {D : Nat → Prop} {p : Nat} {m : Emb} {H : AH} {a : Act} {w : World}
/-- An operation that may come up: all that it waits for has come up. -/
def MayCome (ops : Array Oper) (D : Nat → Prop) (i : Nat) : Prop := ¬ D i ∧ ∃ o, ops[i]? = some o ∧ ∀ ed ∈ o.after, Region.binds .any ed = true → D ed.on
theorem MayCome.closed (hD : Closed ops D) {i : Nat} (h : MayCome ops D i) : Closed ops (fun x => D x ∨ x = i) := by
  intro j o ho hj ed he hb
  rcases hj with hj | rfl
  · exact .inl (hD j o ho hj ed he hb)
  · obtain ⟨_, o', ho', h'⟩ := h
    rw [ho] at ho'; cases ho'
    exact .inl (h' ed he hb)
theorem MayCome.bits (hk : drawOk ops = true) (hD : Closed ops D) {i : Nat} (h : MayCome ops D i) : ∀ j, bitAt (Region.before ops) i j = true → D j := by
  intro j hj
  obtain ⟨h1, h2⟩ := (h.closed hD).bit hk i (.inr rfl) j hj
  rcases h1 with h1 | h1
  · exact h1
  · omega
theorem mem_opTmps {o : Oper} {t : Nat} : (Operand.tmp t) ∈ o.op.operands.toList → t ∈ opTmps ops o := fun h => by
  unfold opTmps
  refine List.mem_append.2 (.inl (List.mem_append.2 (.inr ?_)))
  exact List.mem_filterMap.2 ⟨_, h, rfl⟩
theorem clash_l {x y : Oper} {d : Nat} (h : x.dst = some d) (hy : d ∈ opTmps ops y) : clash ops x y = true := by
  unfold clash
  rw [h]
  simp [hy]
theorem clash_r {x y : Oper} {d : Nat} (h : y.dst = some d) (hx : d ∈ opTmps ops x) : clash ops x y = true := by
  unfold clash
  rw [h]
  simp [hx]
/-- Ahead of an operation that may come up, each slot that it names holds what it holds in the text's order. -/
theorem Inv.slot (hk : drawOk ops = true) (I : Inv P ng ro base w0 ops es As L m1 w1 a1 D p m H a w) {i : Nat} (h : MayCome ops D i) (hi : i ≤ L) {o : Oper} (ho : ops[i]? = some o) {t : Nat} (ht : t ∈ opTmps ops o) :
    VRel m (es i t) (a.tmps.getD t undef) := by
  refine I.tmps t i hi ?_ ?_
  · intro j oj hj hoj hd
    rcases drawOk_pair hk hoj ho hj with hb | ⟨_, hc⟩
    · exact h.bits hk I.closed j hb
    · rw [clash_l hd ht] at hc; cases hc
  · intro j oj hj hoj hd hDj
    rcases Nat.lt_or_ge i j with hlt | hge
    · rcases drawOk_pair hk ho hoj hlt with hb | ⟨_, hc⟩
      · exact h.1 (I.closed.bit hk j hDj i hb).1
      · rw [clash_r hd ht] at hc; cases hc
    · have : j = i := by omega
      subst this
      exact h.1 hDj
theorem Inv.evals (hk : drawOk ops = true) (I : Inv P ng ro base w0 ops es As L m1 w1 a1 D p m H a w) {i : Nat} (h : MayCome ops D i) (hi : i ≤ L) {o : Oper} (ho : ops[i]? = some o) (hok : ∀ o ∈ ops.toList, dstOk a1.tmps.size ng o = true) :
    ∀ x, x ∈ o.op.operands.toList → VRel m ((es i).eval x) (a.eval x) := by
  intro x hx
  have ho' := hok o (by have := Array.mem_of_getElem? ho; simpa using this)
  unfold dstOk at ho'
  rw [Bool.and_eq_true] at ho'
  have hxo := List.all_eq_true.1 ho'.2 x hx
  cases x with
  | tmp t => exact I.slot hk h hi ho (mem_opTmps hx)
  | const v => exact VRel.ground1 m hxo
  | global g =>
    obtain ⟨h1, h2, h3⟩ := I.sim.glob g (by simpa [opdOk] using hxo)
    have := VRel.ptr (m := m) g 0 h1
    simpa [Env.eval, Act.eval, h2, h3] using this
  | func f => exact .func _ _ _ _ _ .nil .nil
theorem Inv.wanted (hk : drawOk ops = true) (I : Inv P ng ro base w0 ops es As L m1 w1 a1 D p m H a w) {i : Nat} (h : MayCome ops D i) (hi : i ≤ L) {o : Oper} (ho : ops[i]? = some o) :
    Region.wanted o (yielded ops a.tmps) = aWanted ops o (es i) := by
  refine wanted_ok fun j want d hg hd => I.slot hk h hi ho ?_
  unfold opTmps
  refine List.mem_append.2 (.inr ?_)
  rw [hg]
  simp [hd]
/-- The slots behind one operation. -/
theorem Inv.tmps' (hk : drawOk ops = true) (hc : Course P ng ro base w0 ops S es As 0 L) (I : Inv P ng ro base w0 ops es As L m1 w1 a1 D p m H a w) {i : Nat} (h : MayCome ops D i) (hi : i < L) {o : Oper} (ho : ops[i]? = some o)
    (hok : ∀ o ∈ ops.toList, dstOk a1.tmps.size ng o = true) {m' : Emb} (hm : m.Le m') {v v' : Value} (hv : VRel m' v v') (he : es (i + 1) = (es i).put o.dst v) :
    ∀ t k, k ≤ L → (∀ j o, j < k → ops[j]? = some o → o.dst = some t → D j ∨ j = i) → (∀ j o, k ≤ j → ops[j]? = some o → o.dst = some t → ¬ (D j ∨ j = i)) → VRel m' (es k t) ((a.put o.dst v').tmps.getD t undef) := by
  intro t k hkL h1 h2
  have ho' := hok o (by have := Array.mem_of_getElem? ho; simpa using this)
  by_cases hd : o.dst = some t
  · have hik : i < k := by
      rcases Nat.lt_or_ge i k with h' | h'
      · exact h'
      · exact absurd (.inr rfl) (h2 i o h' ho hd)
    have hs := hc.slot (t := t) (i := i + 1) (j := k) (by omega) hkL (by
      intro j oj hj1 hj2 hoj hdj
      rcases h1 j oj hj2 hoj hdj with hD | rfl
      · have ht : t ∈ opTmps ops o := by
          unfold opTmps
          exact List.mem_append.2 (.inl (List.mem_append.2 (.inl (by simp [hd]))))
        rcases drawOk_pair hk ho hoj (by omega) with hb | ⟨_, hcl⟩
        · exact h.1 (I.closed.bit hk j hD i hb).1
        · rw [clash_r hdj ht] at hcl; cases hcl
      · omega)
    rw [hs, he, hd]
    have hlt : t < a.tmps.size := by rw [I.tsz]; exact dst_lt ho' t hd
    simp only [Env.put, if_true, Act.put]
    simpa [Array.getD_eq_getD_getElem?, Array.getElem?_setIfInBounds, hlt] using hv
  · have := I.tmps t k hkL (fun j oj hj hoj hdj => by
      rcases h1 j oj hj hoj hdj with hD | rfl
      · exact hD
      · rw [ho] at hoj; cases hoj; exact absurd hdj hd) (fun j oj hj hoj hdj hD => h2 j oj hj hoj hdj (.inl hD))
    have hr : (a.put o.dst v').tmps.getD t undef = a.tmps.getD t undef := by
      cases hdd : o.dst with
      | none => rfl
      | some d =>
        have hne : d ≠ t := fun e => hd (by rw [hdd, e])
        simp [Act.put, Array.getD_eq_getD_getElem?, hne]
    rw [hr]
    exact this.mono hm
/-- A block that nobody turns: over a stretch of the course all of whose effects stand free of the look at number i. -/
theorem keep_range (hk : drawOk ops = true) (hc : Course P ng ro base w0 ops S es As 0 L) {i : Nat} {oi : Oper} (hoi : ops[i]? = some oi) (hr : isRead oi.op = true) {b : Nat} (hb : S b) {j k : Nat} (hjk : j ≤ k) (hkL : k ≤ L)
    (hbj : b < (As j).size) (hfree : ∀ x ox, j ≤ x → x < k → ops[x]? = some ox → isEff ox.op = true → x ≠ i ∧ bitAt (Region.before ops) i x = false ∧ bitAt (Region.before ops) x i = false) : (As k).get b = (As j).get b := by
  induction k with
  | zero => have : j = 0 := by omega
            subst this; rfl
  | succ k ih =>
    by_cases hjk' : j = k + 1
    · subst hjk'; rfl
    · have h1 := ih (by omega) (by omega) (fun x ox h1 h2 => hfree x ox h1 (by omega))
      rw [← h1]
      have hsz := hc.mono j k (by omega) (by omega)
      obtain ⟨o, ho, hs⟩ := hc.step k (Nat.zero_le _) (by omega)
      rcases hs with ⟨_, _, g⟩ | ⟨_, v, _, hheld, ⟨hn, g⟩ | ⟨hn, _, _⟩⟩
      · rw [g]
      · rcases quiet_at hn g (As k) (fun _ _ _ => rfl) with ⟨g, _⟩ | ⟨_, ob, g, _⟩
        · rw [g]
        · rw [g]; exact AH.get_new_ne (by omega)
      · obtain ⟨f1, f2, f3⟩ := hfree k o (by omega) (by omega) ho hn
        have hfr : freeReads ops k = true := by
          unfold freeReads
          refine List.any_eq_true.2 ⟨i, ?_, ?_⟩
          · rw [List.mem_range]
            rcases Nat.lt_or_ge i ops.size with h' | h'
            · exact h'
            · rw [Array.getElem?_eq_none h'] at hoi; cases hoi
          · have : opAt ops i = oi.op := by simp [opAt, hoi]
            simp only [this, hr, f2, f3, Bool.and_eq_true, bne_iff_ne, ne_eq, Bool.not_false, and_true, true_and]
            exact fun e => f1 e.symm
        exact (hheld S rfl).2 hn hfr b (by omega) hb
/-- Where an operation without effect looks, the world's heap is that of the text's order. -/
theorem Inv.look (hk : drawOk ops = true) (hc : Course P ng ro base w0 ops S es As 0 L) (I : Inv P ng ro base w0 ops es As L m1 w1 a1 D p m H a w) (hwf : ∀ k, k ≤ L → Wf (As k)) {i : Nat} (h : MayCome ops D i) (hi : i < L) {o : Oper} (ho : ops[i]? = some o)
    (hn : isEff o.op = false) (hheld : Held ops (some S) i o.op (es i) (As i) (As (i + 1))) (hok : ∀ o ∈ ops.toList, dstOk a1.tmps.size ng o = true) :
    ∀ b, readsAt (es i) o.op = some b → (As i).get b ≠ .dead → H.get b = (As i).get b := by
  intro b hb hl
  have hSb := (hheld S rfl).1 b hn hb
  have hr := reads_isRead hb
  have hd := reads_dom hb (I.evals hk h (by omega) ho hok)
  have hbi : b < (As i).size := by
    rcases Nat.lt_or_ge b (As i).size with h' | h'
    · exact h'
    · exact absurd (hwf i (by omega) b h') hl
  rcases Nat.lt_or_ge i p with hip | hpi
  · have hkr := keep_range hk hc ho hr hSb (j := i) (k := p) (by omega) I.pL hbi (by
      intro x ox h1 h2 hox hex
      refine ⟨?_, ?_, ?_⟩
      · rintro rfl; rw [ho] at hox; cases hox; rw [hn] at hex; cases hex
      · cases hbx : bitAt (Region.before ops) i x with
        | false => rfl
        | true => have := bit_lt hk hbx; omega
      · cases hbx : bitAt (Region.before ops) x i with
        | false => rfl
        | true => exact absurd (I.closed.bit hk x (I.lowE x ox hox h2 (.inl hex)) i hbx).1 h.1)
    rw [I.low b (Nat.lt_of_lt_of_le hbi (hc.mono i p (by omega) I.pL)), hkr]
  · have hfree : ∀ x ox, p ≤ x → x < i → ops[x]? = some ox → isEff ox.op = true → x ≠ i ∧ bitAt (Region.before ops) i x = false ∧ bitAt (Region.before ops) x i = false := by
      intro x ox h1 h2 hox hex
      refine ⟨by omega, ?_, ?_⟩
      · cases hbx : bitAt (Region.before ops) i x with
        | false => rfl
        | true => have := I.effD x ox hox hex (h.bits hk I.closed x hbx); omega
      · cases hbx : bitAt (Region.before ops) x i with
        | false => rfl
        | true => have := bit_lt hk hbx; omega
    rcases I.dom b hd with hbp | ⟨j, hDj, hpj, hj1, hj2⟩
    · rw [I.low b hbp]
      exact (keep_range hk hc ho hr hSb hpi (by omega) hbp hfree).symm
    · rw [I.up j hDj hpj b hj1 hj2]
      have hji : j < i := by
        rcases Nat.lt_or_ge j i with h' | h'
        · exact h'
        · have := hc.mono i j h' (Nat.le_of_lt (I.inL j hDj)); omega
      exact (keep_range hk hc ho hr hSb (j := j + 1) (k := i) (by omega) (by omega) hj2 (fun x ox h1 h2 => hfree x ox (by omega) h2)).symm
end
end Go.AM
