/- Soundness of the abstract machine, fourteenth part: a region that draws its order. -/
import Derived.Test.YtcdnlghlbljopaaDoorAmS13
namespace Go.AM
open Go Go.RowKit
set_option linter.unusedVariables false
/-! ### The numbers of a region's operations -/
theorem before_spec (ops : Array Oper) : (Region.before ops).size = ops.size ∧ ∀ (j : Nat) (o : Oper), ops[j]? = some o → ∀ i, bitAt (Region.before ops) j i = true →
    ∃ ed ∈ o.after, Region.binds .any ed = true ∧ (ed.on = i ∨ bitAt (Region.before ops) ed.on i = true) := by
  let F := fun (acc : Array Nat) (o : Oper) => acc.push (o.after.foldl (fun s e => if Region.binds .any e then s ||| 2 ^ e.on ||| acc.getD e.on 0 else s) 0)
  have bits : ∀ (acc : Array Nat) (l : List Edge) (s : Nat) (i : Nat), (l.foldl (fun s e => if Region.binds .any e then s ||| 2 ^ e.on ||| acc.getD e.on 0 else s) s).testBit i = true →
      s.testBit i = true ∨ ∃ ed ∈ l, Region.binds .any ed = true ∧ (ed.on = i ∨ (acc.getD ed.on 0).testBit i = true) := by
    intro acc l
    induction l with
    | nil => intro s i h; exact .inl h
    | cons ed l ih =>
      intro s i h
      rw [List.foldl_cons] at h
      rcases ih _ i h with h1 | ⟨ed', h1, h2⟩
      · split at h1
        · rename_i hb
          rw [Nat.testBit_or, Nat.testBit_or, Bool.or_eq_true, Bool.or_eq_true] at h1
          rcases h1 with (h1 | h1) | h1
          · exact .inl h1
          · refine .inr ⟨ed, by simp, hb, .inl ?_⟩
            rw [Nat.testBit_two_pow] at h1
            simpa using h1
          · exact .inr ⟨ed, by simp, hb, .inr h1⟩
        · exact .inl h1
      · exact .inr ⟨ed', by simp [h1], h2⟩
  have main : ∀ (l : List Oper) (acc : Array Nat) (pre : List Oper), acc.size = pre.length → (∀ (j : Nat) (o : Oper), pre[j]? = some o → ∀ i, bitAt acc j i = true → ∃ ed ∈ o.after, Region.binds .any ed = true ∧ (ed.on = i ∨ bitAt acc ed.on i = true)) →
      (l.foldl F acc).size = (pre ++ l).length ∧ ∀ (j : Nat) (o : Oper), (pre ++ l)[j]? = some o → ∀ i, bitAt (l.foldl F acc) j i = true → ∃ ed ∈ o.after, Region.binds .any ed = true ∧ (ed.on = i ∨ bitAt (l.foldl F acc) ed.on i = true) := by
    intro l
    induction l with
    | nil => intro acc pre h1 h2; simpa using ⟨h1, h2⟩
    | cons o l ih =>
      intro acc pre h1 h2
      have mono : ∀ j i, bitAt acc j i = true → bitAt (F acc o) j i = true := by
        intro j i h
        unfold bitAt at h ⊢
        have hj : j < acc.size := by
          rcases Nat.lt_or_ge j acc.size with h' | h'
          · exact h'
          · rw [Array.getD_eq_getD_getElem?, Array.getElem?_eq_none h'] at h; simp at h
        rw [Array.getD_eq_getD_getElem?] at h ⊢
        rw [Array.getElem?_push, if_neg (by omega)]
        exact h
      have := ih (F acc o) (pre ++ [o]) (by simp [F, h1]) (by
        intro j o' hj i hi
        by_cases hjl : j < pre.length
        · rw [List.getElem?_append_left hjl] at hj
          have hi' : bitAt acc j i = true := by
            unfold bitAt at hi ⊢
            rw [Array.getD_eq_getD_getElem?] at hi ⊢
            rw [Array.getElem?_push, if_neg (by omega)] at hi
            exact hi
          obtain ⟨ed, e1, e2, e3⟩ := h2 j o' hj i hi'
          exact ⟨ed, e1, e2, e3.imp id (mono _ _)⟩
        · have hj0 : j = pre.length := by
            rcases Nat.lt_or_ge pre.length j with h | h
            · rw [List.getElem?_eq_none (by simp; omega)] at hj; cases hj
            · omega
          subst hj0
          simp at hj
          subst hj
          unfold bitAt at hi
          rw [Array.getD_eq_getD_getElem?, Array.getElem?_push, if_pos h1.symm] at hi
          simp only [Option.getD_some] at hi
          rw [← Array.foldl_toList] at hi
          rcases bits acc o.after.toList 0 i hi with h | ⟨ed, e1, e2, e3⟩
          · simp at h
          · exact ⟨ed, by simpa using e1, e2, e3.imp id (fun h => mono _ _ h)⟩)
      simpa using this
  have := main ops.toList #[] [] rfl (by simp)
  unfold Region.before
  rw [← Array.foldl_toList]
  refine ⟨this.1.trans (by simp), fun j o hj i hi => this.2 j o (by simpa using hj) i hi⟩
/-- The numbers that have come up are closed under what an operation waits for. -/
def Closed (ops : Array Oper) (D : Nat → Prop) : Prop := ∀ j o, ops[j]? = some o → D j → ∀ ed ∈ o.after, Region.binds .any ed = true → D ed.on
theorem Closed.bit {ops : Array Oper} {D : Nat → Prop} (h : Closed ops D) (hk : drawOk ops = true) : ∀ j, D j → ∀ i, bitAt (Region.before ops) j i = true → D i ∧ i < j := by
  intro j
  induction j using Nat.strongRecOn with
  | _ j ih =>
    intro hj i hb
    cases ho : ops[j]? with
    | none =>
      unfold bitAt at hb
      rw [Array.getD_eq_getD_getElem?, Array.getElem?_eq_none] at hb
      · simp at hb
      · rw [(before_spec ops).1]
        rcases Nat.lt_or_ge j ops.size with h' | h'
        · rw [Array.getElem?_eq_getElem h'] at ho; cases ho
        · exact h'
    | some o =>
      obtain ⟨ed, e1, e2, e3⟩ := (before_spec ops).2 j o ho i hb
      have hlt : ed.on < j := by
        unfold drawOk at hk
        have hjn : j < ops.size := by
          rcases Nat.lt_or_ge j ops.size with h' | h'
          · exact h'
          · rw [Array.getElem?_eq_none h'] at ho; cases ho
        have := List.all_eq_true.1 hk j (List.mem_range.2 hjn)
        simp only [ho, Bool.and_eq_true] at this
        have := List.all_eq_true.1 this.1 ed (by simpa using e1)
        simpa [e2] using this
      have hd := h j o ho hj ed e1 e2
      rcases e3 with rfl | e3
      · exact ⟨hd, hlt⟩
      · obtain ⟨h1, h2⟩ := ih ed.on hlt hd i e3
        exact ⟨h1, by omega⟩
theorem drawOk_pair {ops : Array Oper} (hk : drawOk ops = true) {i j : Nat} {oi oj : Oper} (hi : ops[i]? = some oi) (hj : ops[j]? = some oj) (hij : i < j) :
    bitAt (Region.before ops) j i = true ∨ (¬ (isEff oj.op = true ∧ (isEff oi.op = true ∨ isNew oi.op = true)) ∧ clash ops oi oj = false) := by
  unfold drawOk at hk
  have hjn : j < ops.size := by
    rcases Nat.lt_or_ge j ops.size with h' | h'
    · exact h'
    · rw [Array.getElem?_eq_none h'] at hj; cases hj
  have := List.all_eq_true.1 hk j (List.mem_range.2 hjn)
  simp only [hj, Bool.and_eq_true] at this
  have := List.all_eq_true.1 this.2 i (List.mem_range.2 hij)
  simp only [hi, Bool.or_eq_true, Bool.and_eq_true, Bool.not_eq_true'] at this
  rcases this with h | ⟨h1, h2⟩
  · exact .inl h
  · refine .inr ⟨?_, h2⟩
    rintro ⟨h3, h4⟩
    rw [h3, Bool.true_and, Bool.or_eq_false_iff] at h1
    rcases h4 with h4 | h4
    · rw [h4] at h1; cases h1.1
    · rw [h4] at h1; cases h1.2
end Go.AM
