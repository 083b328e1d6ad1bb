/- Soundness of the abstract machine, fifteenth part: what a region's course says of the numbers of blocks. -/
import Derived.Test.YtcdnlghlbljopaaDoorAmS14
namespace Go.AM
open Go Go.RowKit
set_option linter.unusedVariables false
/-- The blocks below a number alone. -/
def Emb.cut (m : Emb) (n : Nat) : Emb := { m with dom := fun b => m.dom b ∧ b < n }
theorem Emb.cut_le (m : Emb) (n : Nat) : (m.cut n).Le m := ⟨fun _ h => h.1, fun _ _ => rfl, fun _ _ => rfl, fun _ _ => rfl, fun _ _ => rfl⟩
mutual
theorem VRel.cut {m mc : Emb} {n : Nat} (hc : ∀ b, mc.dom b → b < n) : ∀ {v v' v'' : Value}, VRel m v v' → VRel mc v v'' → VRel (m.cut n) v v'
  | _, _, _, .bool b, _ => .bool b
  | _, _, _, .int k i, _ => .int k i
  | _, _, _, .string s, _ => .string s
  | _, _, _, .ptrNil, _ => .ptrNil
  | _, _, _, .ptr b o h, k => by cases k with | ptr _ _ h' => exact VRel.ptr (m := m.cut n) b o ⟨h, hc b h'⟩
  | _, _, _, .slNil, _ => .slNil
  | _, _, _, .slEmpty p p' c h hd, k => by
    refine .slEmpty p p' c h fun e => ⟨hd e, ?_⟩
    subst e
    cases k with
    | slEmpty _ _ _ _ h' => exact hc _ (h' rfl)
    | slExact _ _ _ _ h' h2 _ => exact absurd h2 (Nat.lt_irrefl _)
    | slBig _ _ _ _ h' _ _ => exact hc _ h'
  | _, _, _, .slExact b o i c h h1 h2, k => by
    cases k with
    | slEmpty _ _ _ h' h'' =>
      rcases h' with rfl | rfl
      · exact .slEmpty _ _ 0 (.inl rfl) fun e => (zeroNe e).elim
      · exact absurd h1 (Nat.lt_irrefl _)
    | slExact _ _ _ _ h' _ _ => exact VRel.slExact (m := m.cut n) b o i c ⟨h, hc b h'⟩ h1 h2
    | slBig _ _ _ _ h' _ _ => exact absurd h1 (Nat.lt_irrefl _)
  | _, _, _, .slBig b o i c h h1 h2, k => by
    cases k with
    | slEmpty _ _ _ h' h'' => exact VRel.slBig (m := m.cut n) b o 0 c ⟨h, hc b (h'' rfl)⟩ h1 h2
    | slExact _ _ _ _ h' h2 _ => exact absurd h2 (Nat.lt_irrefl _)
    | slBig _ _ _ _ h' _ _ => exact VRel.slBig (m := m.cut n) b o i c ⟨h, hc b h'⟩ h1 h2
  | _, _, _, .mapNil, _ => .mapNil
  | _, _, _, .map b h, k => by cases k with | map _ h' => exact VRel.map (m := m.cut n) b ⟨h, hc b h'⟩
  | _, _, _, .nilFunc, _ => .nilFunc
  | _, _, _, .func fn f f' c c' h1 h2, k => by cases k with | func _ _ _ _ _ k1 k2 => exact .func _ _ _ _ _ (VRels.cut hc h1 k1) (VRels.cut hc h2 k2)
  | _, _, _, .nilIface, _ => .nilIface
  | _, _, _, .iface t v v' h, k => by cases k with | iface _ _ _ k1 => exact .iface _ _ _ (VRel.cut hc h k1)
  | _, _, _, .agg cs cs' h h1, k => by cases k with | agg _ _ k1 _ => exact .agg _ _ (VRels.cut hc h k1) h1
  | _, _, _, .tuple vs vs' h, k => by cases k with | tuple _ _ k1 => exact .tuple _ _ (VRels.cut hc h k1)
theorem VRels.cut {m mc : Emb} {n : Nat} (hc : ∀ b, mc.dom b → b < n) : ∀ {l l' l'' : List Value}, VRels m l l' → VRels mc l l'' → VRels (m.cut n) l l'
  | _, _, _, .nil, _ => .nil
  | _, _, _, .cons v v' l l' h k, q => by cases q with | cons _ _ _ _ q1 q2 => exact .cons _ _ _ _ (VRel.cut hc h q1) (VRels.cut hc k q2)
end
section
variable {P : Program} {ng ro base : Nat} {w0 : World}
/-- A heap that is held by another one's world, where both agree below a number; a course that was gone through shows that nothing in it points beyond. -/
theorem Sim.cut {m mc : Emb} {H A : AH} {w wc : World} (h : Sim ng ro base w0 m H w) (hc : Sim ng ro base w0 mc A wc) (hg : ∀ b, b < A.size → H.get b = A.get b) (hgl : ∀ g, g < ng → g < A.size) :
    Sim ng ro base w0 (m.cut A.size) A w := by
  have hlt : ∀ b, A.get b ≠ .dead → b < A.size := fun b hb => hc.live_lt hb
  have hH : ∀ b, A.get b ≠ .dead → H.get b = A.get b := fun b hb => hg b (hlt b hb)
  have hl : ∀ b, A.get b ≠ .dead → H.get b ≠ .dead := fun b hb => by rw [hH b hb]; exact hb
  refine ⟨fun g hgn => ?_, fun b hb => hb.2, fun b c e hb => ?_, fun b es hb => ?_, fun b hb => h.rw b (hl b hb), fun b b' hb hb' => h.inj b b' (hl b hb) (hl b' hb'), fun b hb => h.lo b (hl b hb), h.bl, hc.rl, h.old⟩
  · obtain ⟨h1, h2, h3⟩ := h.glob g hgn
    exact ⟨⟨h1, hgl g hgn⟩, h2, h3⟩
  · have hb' := hH b (by rw [hb]; simp)
    rw [hb] at hb'
    obtain ⟨hd, c', el, fz, h1, h2, h3, h4, h5, h6⟩ := h.cells b c e hb'
    obtain ⟨_, c2, _, _, _, _, _, _, k5, _⟩ := hc.cells b c e hb
    refine ⟨⟨hd, hlt b (by rw [hb]; simp)⟩, c', el, fz, h1, h2, h3, h4, fun i v hv => ?_, h6⟩
    obtain ⟨g1, v', g2, g3⟩ := h5 i v hv
    obtain ⟨_, v'', _, g4⟩ := k5 i v hv
    exact ⟨g1, v', g2, VRel.cut hc.dlt g3 g4⟩
  · have hb' := hH b (by rw [hb]; simp)
    rw [hb] at hb'
    obtain ⟨hd, es', cl, h1, h2⟩ := h.maps b es hb'
    obtain ⟨_, es2, _, _, k2⟩ := hc.maps b es hb
    refine ⟨⟨hd, hlt b (by rw [hb]; simp)⟩, es', cl, h1, h2.1, fun i k v hv => ?_⟩
    obtain ⟨en, g1, g2, g3⟩ := h2.2 i k v hv
    obtain ⟨en2, _, g4, g5⟩ := k2.2 i k v hv
    exact ⟨en, g1, VRel.cut hc.dlt g2 g4, VRel.cut hc.dlt g3 g5⟩
theorem Sim.wf {m : Emb} {A : AH} {w : World} (h : Sim ng ro base w0 m A w) : Wf A := fun b hb => by
  cases ho : A.get b with
  | dead => rfl
  | cells c e => have := h.live_lt (b := b) (by rw [ho]; simp); omega
  | map es => have := h.live_lt (b := b) (by rw [ho]; simp); omega
/-- An operation that can be carried out leaves some state. -/
theorem wp_witness {o : Oper} {a : Act} {w : World} {K : Act → World → Prop} (h : o.wp P a w K (fun _ _ _ => False)) : ∃ a' w', K a' w' := by
  unfold Oper.wp at h
  generalize (execOp a.eval o).run P w = r at h
  cases r with
  | ok n w' =>
    cases n <;> simp only [Oper.upon] at h <;> first
      | exact ⟨_, _, h⟩
      | exact h.elim
      | skip
    case enter f args =>
      obtain ⟨e, w2, fr, h1, _⟩ := h []
      cases e with
      | returned v => exact ⟨_, _, h1⟩
      | panicked ch => exact h1.elim
      | outgrown => obtain ⟨_, _, hf⟩ := h1; exact hf.elim
    case row row args =>
      obtain ⟨v, w2, h1, _⟩ := h default []
      exact ⟨_, _, h1⟩
  | halt x w' => cases x <;> simp only [Oper.upon] at h
section
variable {ops : Array Oper} {S : Nat → Prop} {es : Nat → Env} {As : Nat → AH} {L : Nat}
/-- One run in the text's order shows how the heaps of a course belong to worlds. -/
theorem Course.canon (hc : Course P ng ro base w0 ops S es As 0 L) (hL : L ≤ ops.size) {m : Emb} {w : World} {a : Act} (hS : Sim ng ro base w0 m (As 0) w) (hE : EnvRel m (es 0) a.tmps)
    (hok : ∀ o ∈ ops.toList, dstOk a.tmps.size ng o = true) : ∀ k, k ≤ L → ∃ mk wk ak, Sim ng ro base w0 mk (As k) wk ∧ EnvRel mk (es k) (Act.tmps ak) ∧ ak.tmps.size = a.tmps.size := by
  intro k
  induction k with
  | zero => intro _; exact ⟨m, w, a, hS, hE, rfl⟩
  | succ k ih =>
    intro hk
    obtain ⟨mk, wk, ak, h1, h2, h3⟩ := ih (by omega)
    obtain ⟨o, ho, hs⟩ := hc.step k (Nat.zero_le _) (by omega)
    have ho' := hok o (by have := Array.mem_of_getElem? ho; simpa using this)
    rw [← h3] at ho'
    rcases hs with ⟨_, g1, g2⟩ | ⟨_, v, g1, _, g2⟩
    · refine ⟨mk, wk, ak.put o.dst undef, by rw [g2]; exact h1, ?_, put_size.trans h3⟩
      rw [g1]
      exact h2.put (.undef mk) (dst_lt ho')
    · have hop : OpSound P ng ro base w0 o (es k) (As k) v (As (k + 1)) := by
        rcases g2 with ⟨_, g2⟩ | ⟨_, g2, _⟩
        · exact opSound_of g2
        · exact g2
      obtain ⟨a', w', m', v', g3, g4, g5⟩ := wp_witness (P := P) (hop mk wk ak h1 (evals h1 h2 ho') (fun a' w' => ∃ m' v', Step ng ro base w0 mk (As k) wk m' (As (k + 1)) w' ∧ VRel m' v v' ∧ a' = ak.put o.dst v') (fun _ _ _ => False)
        fun m' w' v' q1 q2 => ⟨m', v', q1, q2, rfl⟩)
      subst g5
      refine ⟨m', w', ak.put o.dst v', g3.sim, ?_, put_size.trans h3⟩
      rw [g1]
      exact (h2.mono g3.le).put g4 (dst_lt ho')
/-- What a step of a course does to the heap. -/
theorem Course.heap (hc : Course P ng ro base w0 ops S es As 0 L) (i : Nat) (hi : i < L) : ∃ o, ops[i]? = some o ∧ (As i).size ≤ (As (i + 1)).size ∧
    (isEff o.op = false → As (i + 1) = As i ∨ (isNew o.op = true ∧ ∃ ob, As (i + 1) = (As i).newAt (As i).size ob)) := by
  obtain ⟨o, ho, hs⟩ := hc.step i (Nat.zero_le _) hi
  refine ⟨o, ho, ?_, ?_⟩
  · rcases hs with ⟨_, _, g⟩ | ⟨_, v, _, _, ⟨hn, g⟩ | ⟨_, _, g⟩⟩
    · rw [g]; exact Nat.le_refl _
    · rcases quiet_at hn g (As i) (fun _ _ _ => rfl) with ⟨g, _⟩ | ⟨_, ob, g, _⟩
      · rw [g]; exact Nat.le_refl _
      · rw [g]; exact Nat.le_max_left _ _
    · exact g
  · intro hn
    rcases hs with ⟨_, _, g⟩ | ⟨_, v, _, _, ⟨_, g⟩ | ⟨hn', _⟩⟩
    · exact .inl g
    · rcases quiet_at hn g (As i) (fun _ _ _ => rfl) with ⟨g, _⟩ | ⟨h1, ob, g, _⟩
      · exact .inl g
      · exact .inr ⟨h1, ob, g⟩
    · rw [hn] at hn'; cases hn'
theorem Course.mono (hc : Course P ng ro base w0 ops S es As 0 L) : ∀ i j, i ≤ j → j ≤ L → (As i).size ≤ (As j).size := by
  intro i j hij
  induction j with
  | zero => intro _; have : i = 0 := by omega
            subst this; exact Nat.le_refl _
  | succ j ih =>
    intro hj
    by_cases h : i = j + 1
    · subst h; exact Nat.le_refl _
    · obtain ⟨_, _, h1, _⟩ := hc.heap j (by omega)
      exact Nat.le_trans (ih (by omega) (by omega)) h1
/-- A slot that is not written keeps its value. -/
theorem Course.slot (hc : Course P ng ro base w0 ops S es As 0 L) {t i j : Nat} (hij : i ≤ j) (hj : j ≤ L) (hn : ∀ k o, i ≤ k → k < j → ops[k]? = some o → o.dst ≠ some t) : es j t = es i t := by
  induction j with
  | zero => have : i = 0 := by omega
            subst this; rfl
  | succ j ih =>
    by_cases h : i = j + 1
    · subst h; rfl
    · have h1 := ih (by omega) (by omega) (fun k o h1 h2 => hn k o h1 (by omega))
      obtain ⟨o, ho, hs⟩ := hc.step j (Nat.zero_le _) (by omega)
      have hd := hn j o (by omega) (by omega) ho
      rcases hs with ⟨_, g, _⟩ | ⟨_, v, g, _⟩
      · rw [g, ← h1]; simp [Env.put, hd]
      · rw [g, ← h1]; simp [Env.put, hd]
end
end
end Go.AM
