/- The abstract machine in use: parts of slices; what is appended to a slice that is full. -/
import Derived.Test.YtcdnlghlbljopaaDoorAmPut
namespace Go.AM
open Go
set_option linter.unusedVariables false
set_option linter.unusedSimpArgs false
section
variable {α : Type} [Dat α] {P : Program} {A : AH} {s : Sl} {l : List α} {F : List Nat} {t : TypeId}
theorem Reps.drop {cs : List Value} {G : List Nat} (h : Reps A l cs G) : ∀ k, k ≤ l.length → ∃ G', Reps A (l.drop k) (cs.drop (k * Dat.w α)) G' ∧ ∀ b, b ∈ G' → b ∈ G := by
  induction h with
  | nil => intro k hk; have : k = 0 := by simpa using hk
           subst this; exact ⟨[], by simpa using Reps.nil, fun b hb => hb⟩
  | @cons x l c cs F G hx h ih =>
    intro k hk
    have hl := Dat.len hx
    cases k with
    | zero => exact ⟨F ++ G, by simpa using Reps.cons hx h, fun b hb => hb⟩
    | succ k =>
      obtain ⟨G', h1, h2⟩ := ih k (by simpa using hk)
      refine ⟨G', ?_, fun b hb => List.mem_append_right _ (h2 b hb)⟩
      have e0 : c.drop ((k + 1) * Dat.w α) = [] := List.drop_eq_nil_of_le (by rw [hl, Nat.succ_mul]; omega)
      rw [List.drop_append, e0, List.nil_append, hl, show (k + 1) * Dat.w α - Dat.w α = k * Dat.w α by rw [Nat.succ_mul]; omega]
      simpa using h1
theorem SlR.cells_e (h : InB A s l F) : ∃ c, A.get s.b = .cells c (Dat.w α) := by
  obtain ⟨_, _, _, _, c, _, _, h5, _⟩ := h; exact ⟨c, h5⟩
/-- s[i:] -/
theorem SlR.from (h : SlR A s l F) (ht : tElemSize P t = some (Dat.w α)) {i : Nat} (hi : i ≤ l.length) :
    ∃ s' F', (∀ k, aSlice P A t s.v (some (.int k i)) none none = some s'.v) ∧ SlR A s' (l.drop i) F' ∧ ∀ b ∈ F', b ∈ F := by
  have hlen := h.len
  have hb1 : ∀ k, aBound (some (.int k (i : Int))) 0 = some i := fun k => by simp [aBound]
  have hbn : ∀ d, aBound none d = some d := fun d => rfl
  cases h with
  | nil h hl hF =>
    subst h hl hF
    have : i = 0 := by simpa using hi
    subst this
    refine ⟨.nil, [], fun k => ?_, .nil rfl rfl rfl, by simp⟩
    have hb : (0 : Nat) < BIG := by decide
    simp only [Sl.v_nil, aSlice, ht, hb1, hbn, hb, Nat.le_refl, and_self, if_true, Nat.sub_zero]
  | empty h hn hc hl hF =>
    subst hl hF
    have : i = 0 := by simpa using hi
    subst this
    refine ⟨s, [], fun k => ?_, .empty h hn hc rfl rfl, by simp⟩
    simp only [Sl.v, h, aSlice, ht, hb1, hbn, hc, hn, Nat.le_refl, and_self, if_true, Nat.sub_zero, Nat.zero_mul, Bool.false_eq_true, if_false, Option.map_some, ptr_add, Nat.add_zero, ite_self]
  | inB h =>
    obtain ⟨h1, h2, h3, h4, c, cs, G, h5, h6, h7, h8, rfl⟩ := h
    obtain ⟨G', r1, r2⟩ := h8.drop i hi
    have hrow : ∃ c cs G2, A.get s.b = .cells c (Dat.w α) ∧ s.o + i * Dat.w α + (s.len - i) * Dat.w α ≤ c.length ∧ (c.drop (s.o + i * Dat.w α)).take ((s.len - i) * Dat.w α) = cs ∧ Reps A (l.drop i) cs G2 ∧ s.b :: G' = s.b :: G2 := by
      have em : i * Dat.w α + (s.len - i) * Dat.w α = s.len * Dat.w α := by rw [← Nat.add_mul]; congr 1; omega
      refine ⟨c, cs.drop (i * Dat.w α), G', h5, by omega, ?_, r1, rfl⟩
      rw [← h7, List.drop_take, List.drop_drop]
      congr 1
      rw [← em]; omega
    rcases h4 with h4 | ⟨h4, h4'⟩
    · refine ⟨⟨false, s.b, s.o + i * Dat.w α, s.len - i, BIG⟩, s.b :: G', fun k => ?_, .inB ⟨rfl, h2, by simp; omega, .inl rfl, hrow⟩, fun b hb => by
        rcases List.mem_cons.1 hb with rfl | hb
        · simp
        · exact List.mem_cons_of_mem _ (r2 b hb)⟩
      have e : i ≤ s.len := by omega
      simp only [Sl.v, h1, aSlice, ht, hb1, hbn, h4, h5, Nat.lt_irrefl, e, Nat.le_refl, and_self, if_true, if_false, Bool.false_eq_true, ptr_add]
    · have e : i ≤ s.len := by omega
      by_cases hci : s.cap = i
      · refine ⟨⟨false, s.b, s.o, s.len - i, s.cap - i⟩, [], fun k => ?_, .empty rfl (by simp; omega) (by simp; omega) (by rw [List.drop_eq_nil_of_le (by omega)]) rfl, by simp⟩
        have hib : i < BIG := by omega
        simp only [Sl.v, h1, aSlice, ht, hb1, hbn, hib, e, Nat.le_refl, and_self, if_true, Bool.false_eq_true, if_false, hci]
      · refine ⟨⟨false, s.b, s.o + i * Dat.w α, s.len - i, s.cap - i⟩, s.b :: G', fun k => ?_, .inB ⟨rfl, h2, by simp; omega, .inr ⟨by simp; omega, by simp; omega⟩, hrow⟩, fun b hb => by
          rcases List.mem_cons.1 hb with rfl | hb
          · simp
          · exact List.mem_cons_of_mem _ (r2 b hb)⟩
        simp only [Sl.v, h1, aSlice, ht, hb1, hbn, h4', e, Nat.le_refl, and_self, if_true, Bool.false_eq_true, if_false, hci, Option.map_some, ptr_add]
/-- The row of the first elements. -/
theorem InB.firstRow (h : InB A s l F) {i : Nat} (hi : i ≤ l.length) : ∃ G', (∃ c cs G2, A.get s.b = .cells c (Dat.w α) ∧ s.o + i * Dat.w α ≤ c.length ∧ (c.drop s.o).take (i * Dat.w α) = cs ∧ Reps A (l.take i) cs G2 ∧ s.b :: G' = s.b :: G2) ∧ ∀ b ∈ s.b :: G', b ∈ F := by
  obtain ⟨h1, h2, h3, h4, c, cs, G, h5, h6, h7, h8, rfl⟩ := h
  obtain ⟨G', r1, r2⟩ := h8.take i hi
  have em : i * Dat.w α ≤ s.len * Dat.w α := Nat.mul_le_mul_right _ (by omega)
  refine ⟨G', ⟨c, cs.take (i * Dat.w α), G', h5, by omega, ?_, r1, rfl⟩, fun b hb => ?_⟩
  · rw [← h7, List.take_take, Nat.min_eq_left em]
  · rcases List.mem_cons.1 hb with rfl | hb
    · simp
    · exact List.mem_cons_of_mem _ (r2 b hb)
/-- s[:i] -/
theorem SlR.upto (h : SlR A s l F) (ht : tElemSize P t = some (Dat.w α)) {i : Nat} (hi : i ≤ l.length) :
    ∃ s' F', (∀ k, aSlice P A t s.v none (some (.int k i)) none = some s'.v) ∧ SlR A s' (l.take i) F' ∧ ∀ b ∈ F', b ∈ F := by
  have hlen := h.len
  have hb1 : ∀ k d, aBound (some (.int k (i : Int))) d = some i := fun k d => by simp [aBound]
  have hb0 : aBound none 0 = some 0 := rfl
  cases h with
  | nil h hl hF =>
    subst h hl hF
    have : i = 0 := by simpa using hi
    subst this
    refine ⟨.nil, [], fun k => ?_, .nil rfl rfl rfl, by simp⟩
    have hb : (0 : Nat) < BIG := by decide
    simp only [Sl.v_nil, aSlice, ht, hb1, hb0, hb, Nat.le_refl, and_self, if_true, Nat.sub_zero]
  | empty h hn hc hl hF =>
    subst hl hF
    have : i = 0 := by simpa using hi
    subst this
    refine ⟨s, [], fun k => ?_, .empty h hn hc rfl rfl, by simp⟩
    simp only [Sl.v, h, aSlice, ht, hb1, hb0, hc, hn, Nat.le_refl, and_self, if_true, Nat.sub_zero, Nat.zero_mul, Bool.false_eq_true, if_false, Option.map_some, ptr_add, Nat.add_zero, ite_self]
  | inB h =>
    obtain ⟨G', hrow, hsub⟩ := h.firstRow hi
    obtain ⟨h1, h2, h3, h4, c, cs, G, h5, h6, h7, h8, rfl⟩ := h
    have e : i ≤ s.len := by omega
    rcases h4 with h4 | ⟨h4, h4'⟩
    · refine ⟨⟨false, s.b, s.o, i, BIG⟩, s.b :: G', fun k => ?_, .inB ⟨rfl, h2, by simp; omega, .inl rfl, hrow⟩, hsub⟩
      simp only [Sl.v, h1, aSlice, ht, hb1, hb0, h4, h5, Nat.lt_irrefl, e, Nat.zero_le, and_self, if_true, if_false, Bool.false_eq_true, ptr_add, Nat.zero_mul, Nat.add_zero, Nat.sub_zero]
    · refine ⟨⟨false, s.b, s.o, i, s.cap⟩, s.b :: G', fun k => ?_, .inB ⟨rfl, h2, by simp; omega, .inr ⟨by simp; omega, h4'⟩, hrow⟩, hsub⟩
      simp only [Sl.v, h1, aSlice, ht, hb1, hb0, h4', e, Nat.zero_le, and_self, if_true, Bool.false_eq_true, if_false, Option.map_some, ptr_add, Nat.zero_mul, Nat.add_zero, Nat.sub_zero, ite_self]
/-- s[:i:i] -/
theorem SlR.upto3 (h : SlR A s l F) (ht : tElemSize P t = some (Dat.w α)) {i : Nat} (hi : i ≤ l.length) (hil : i < BIG) :
    ∃ s' F', (∀ k k', aSlice P A t s.v none (some (.int k i)) (some (.int k' i)) = some s'.v) ∧ SlR A s' (l.take i) F' ∧ (∀ b ∈ F', b ∈ F) ∧ s'.len = i ∧ s'.cap = i := by
  have hlen := h.len
  have hb1 : ∀ k d, aBound (some (.int k (i : Int))) d = some i := fun k d => by simp [aBound]
  have hb0 : aBound none 0 = some 0 := rfl
  cases h with
  | nil h hl hF =>
    subst h hl hF
    have : i = 0 := by simpa using hi
    subst this
    refine ⟨.nil, [], fun k k' => ?_, .nil rfl rfl rfl, by simp, rfl, rfl⟩
    simp only [Sl.v_nil, aSlice, ht, hb1, hb0, hil, Nat.le_refl, and_self, if_true, Nat.sub_zero]
  | empty h hn hc hl hF =>
    subst hl hF
    have : i = 0 := by simpa using hi
    subst this
    refine ⟨⟨false, s.b, s.o, 0, 0⟩, [], fun k k' => ?_, .empty rfl rfl hil rfl rfl, by simp, rfl, rfl⟩
    simp only [Sl.v, h, aSlice, ht, hb1, hb0, hil, hn, Nat.le_refl, and_self, if_true, Nat.sub_zero, Bool.false_eq_true, if_false]
  | inB h =>
    obtain ⟨G', hrow, hsub⟩ := h.firstRow hi
    obtain ⟨h1, h2, h3, h4, c, cs, G, h5, h6, h7, h8, rfl⟩ := h
    have e : i ≤ s.len := by omega
    refine ⟨⟨false, s.b, s.o, i, i⟩, s.b :: G', fun k k' => ?_, .inB ⟨rfl, h2, by simp; omega, .inr ⟨Nat.le_refl _, hil⟩, hrow⟩, hsub, rfl, rfl⟩
    simp only [Sl.v, h1, aSlice, ht, hb1, hb0, e, hil, Nat.zero_le, Nat.le_refl, and_self, if_true, Bool.false_eq_true, if_false, Option.map_some, ptr_add, Nat.zero_mul, Nat.add_zero, Nat.sub_zero, ite_self]
end
/-- Texts have no blocks of their own. -/
theorem Reps.strs {A : AH} {l : List ByteArray} {cs : List Value} {G : List Nat} (h : Reps A l cs G) : G = [] ∧ ∀ A', Reps A' l cs [] := by
  induction h with
  | nil => exact ⟨rfl, fun _ => .nil⟩
  | cons hx h ih =>
    obtain ⟨rfl, h2⟩ := ih
    obtain ⟨rfl, rfl, hz⟩ := hx
    exact ⟨rfl, fun A' => Reps.cons (F := []) (G := []) (show [Value.string _] = [Value.string _] ∧ ([] : List Nat) = [] ∧ _ from ⟨rfl, rfl, hz⟩) (h2 A')⟩
/-- Something is appended to texts that fill their row. -/
theorem app_full {P : Program} {ro : Nat} {A : AH} {t : TypeId} {s : Sl} {l xs : List ByteArray} {F : List Nat} {x : Value} {vs : List Value} (h : SlR A s l F) (hc : s.cap = s.len) (hcap : s.cap < BIG) (ht : tElemSize P t = some 1) (hsrc : aSource A 1 x = some (xs.length, vs)) (hx : Reps A xs vs []) (hn : 0 < xs.length) (hlim : l.length + xs.length < 4294967296) :
    ∃ s' A', aAppend P ro A t s.v x = some (s'.v, A') ∧ Acc A.size A' s' (l ++ xs) [] ∧ Ext A A' ∧ A'.size = A.size + 1 := by
  have hl2 : l.length + xs.length < LIM := hlim
  have own : ∀ (old : List Value), Reps A l old [] → Acc A.size (A.new (.cells (old ++ vs) 1)) ⟨false, A.size, 0, l.length + xs.length, BIG⟩ (l ++ xs) [] := fun old ho =>
    .own (Nat.le_refl _) (Nat.lt_succ_self _) (by simp) (by simp) (.inl rfl) (AH.get_new_self _ _) ((Reps.strs (ho.append hx)).2 _)
  have hlen := h.len
  have hb : (0 : Nat) < BIG := by decide
  have hx0 : ¬ xs.length = 0 := by omega
  cases h with
  | nil h hl hF =>
    subst h hl hF
    refine ⟨⟨false, A.size, 0, xs.length, BIG⟩, _, ?_, by have := own [] .nil; simpa using this, Ext.new _ _, rfl⟩
    have hl3 : 0 + xs.length < LIM := by simpa using hl2
    show aAppend P ro A t (.slice none 0 0) x = some (.slice (some ⟨A.size, 0, none⟩) xs.length BIG, A.new (.cells vs 1))
    unfold aAppend
    simp only [ht, hsrc, hl3, if_true, hx0, if_false, ne_eq, not_true_eq_false, or_self]
  | empty h hn' hc' hl hF =>
    subst hl hF
    refine ⟨⟨false, A.size, 0, xs.length, BIG⟩, _, ?_, by have := own [] .nil; simpa using this, Ext.new _ _, rfl⟩
    have hl3 : 0 + xs.length < LIM := by simpa using hl2
    have hcc : s.cap = 0 := by omega
    have e : s.v = .slice (some ⟨s.b, s.o, none⟩) 0 0 := by simp only [Sl.v, h, hn', hcc, Bool.false_eq_true, if_false]
    rw [e]
    show aAppend P ro A t (.slice (some ⟨s.b, s.o, none⟩) 0 0) x = some (.slice (some ⟨A.size, 0, none⟩) xs.length BIG, A.new (.cells vs 1))
    unfold aAppend
    have hx1 : ¬ 0 + xs.length ≤ 0 := by omega
    simp only [ht, hsrc, hl3, hb, if_true, hx0, hx1, if_false, false_and]
  | inB h =>
    obtain ⟨h1, h2, h3, h4, c, cs, G, h5, h6, h7, h8, rfl⟩ := h
    have h6 : s.o + s.len * 1 ≤ c.length := h6
    have h7 : (c.drop s.o).take (s.len * 1) = cs := h7
    have hr0 := h8.strs.2 A
    have hl3 : s.len + xs.length < LIM := by rw [h3]; exact hl2
    have e : s.v = .slice (some ⟨s.b, s.o, none⟩) s.len s.len := by simp only [Sl.v, h1, hc, Bool.false_eq_true, if_false]
    have hrow : aRow A ⟨s.b, s.o, none⟩ (s.len * 1) = some cs := by rw [aRow_get h5 h6, h7]
    have hcb : s.len < BIG := by omega
    by_cases h0 : s.len = 0
    · have hl0 : l = [] := List.eq_nil_of_length_eq_zero (by omega)
      subst hl0
      refine ⟨⟨false, A.size, 0, xs.length, BIG⟩, _, ?_, by have := own [] .nil; simpa using this, Ext.new _ _, rfl⟩
      have hl4 : 0 + xs.length < LIM := by simpa using hl2
      rw [e, h0]
      show aAppend P ro A t (.slice (some ⟨s.b, s.o, none⟩) 0 0) x = some (.slice (some ⟨A.size, 0, none⟩) xs.length BIG, A.new (.cells vs 1))
      unfold aAppend
      have hx1 : ¬ 0 + xs.length ≤ 0 := by omega
      simp only [ht, hsrc, hl4, hb, if_true, hx0, hx1, if_false, false_and]
    · refine ⟨⟨false, A.size, 0, l.length + xs.length, BIG⟩, _, ?_, own cs hr0, Ext.new _ _, rfl⟩
      rw [e]
      show aAppend P ro A t (.slice (some ⟨s.b, s.o, none⟩) s.len s.len) x = some (.slice (some ⟨A.size, 0, none⟩) (l.length + xs.length) BIG, A.new (.cells (cs ++ vs) 1))
      rw [← h3]
      unfold aAppend
      have hx1 : ¬ s.len + xs.length ≤ s.len := by omega
      simp only [ht, hsrc, hl3, hcb, if_true, hx0, hx1, h0, if_false, false_and, hrow]
/-- The elements of a list, to be appended. -/
theorem SlR.srcS {A : AH} {s : Sl} {l : List ByteArray} {F : List Nat} (h : SlR A s l F) : ∃ vs, aSource A 1 s.v = some (l.length, vs) ∧ ∀ A', Reps A' l vs [] := by
  obtain ⟨vs, G, h1, h2, _⟩ := h.src
  exact ⟨vs, h1, h2.strs.2⟩
/-- append([]T{}, s...) -/
theorem SlR.copied {α : Type} [Dat α] {P : Program} {ro : Nat} {A : AH} {t : TypeId} {s : Sl} {l : List α} {F : List Nat} (h : SlR A s l F) (hnf : ∀ {A : AH} {cs : List Value} {G : List Nat}, Reps A l cs G → G = []) (ht : tElemSize P t = some (Dat.w α)) (hro : ro ≤ A.size) (hl : l.length < 4294967296) :
    ∃ s' A', aAppend P ro (A.new (.cells [] (Dat.w α))) t (Sl.mk false A.size 0 0 0).v s.v = some (s'.v, A') ∧ Acc A.size A' s' l [] ∧ Ext A A' := by
  obtain ⟨vs, G0, hsrc, hr, _⟩ := (h.ext (Ext.new A (.cells [] (Dat.w α)))).src
  obtain rfl := hnf hr
  obtain ⟨s', A1, hap, hacc, hg, _⟩ := (Acc.empty (lo := A.size) (A := A.new (.cells [] (Dat.w α))) (α := α) A.size 0).app (P := P) (ro := ro) (t := t) hro ht hsrc rfl hr (.inr (by simp)) (by simpa using hl) (by simp only [AH.size_new]; omega)
  refine ⟨s', A1, hap, by simpa using hacc, ?_⟩
  exact hg.ext (Ext.new A _) (Nat.le_refl _)
/-- A look at a slice's row, where its end is not known. -/
def lookS (n : Nat) (v : Value) (p : Prop) : Prop := (∀ a k c, v = .slice (some a) k c → BIG ≤ c → a.block < n) ∧ p
/-- The looks of a region's further operations. -/
theorem amX2 (P : Program) (ro : Nat) (X : FuncId → List Value → AH → ARes → AH → Prop) :
    (∀ n e t x lo hi mx p, lookH n e (.slice t x lo hi mx) p = lookS n (e.eval x) p) ∧ (∀ n (s : Sl) p, (s.b < n ∨ s.cap < BIG ∨ s.nl = true) → lookS n s.v p = p) ∧ (∀ n s p, lookS n (.string s) p = p) ∧
    (∀ n e x p, lookH n e (.nilCheck x) p = p) ∧ (∀ n e f a b p, lookH n e (.makeFunc f a b) p = p) ∧ (∀ n e t x p, lookH n e (.makeInterface t x) p = p) ∧ (∀ n e a ts p, lookH n e (.call ⟨.builtin .min, a, ts⟩) p = p) :=
  ⟨fun n e t x lo hi mx p => (by
      unfold lookH lookS
      simp only [isEff, readsAt]
      refine propext ⟨fun h => ⟨fun a k c hr hc => h.1 trivial a.block (by rw [hr]; simp only [Nat.not_lt.2 hc, if_false]), h.2⟩, fun h => ⟨fun _ b hb => ?_, h.2⟩⟩
      cases hx : e.eval x with
      | slice o k c => cases o with
        | none => rw [hx] at hb; cases hb
        | some a =>
          rw [hx] at hb
          simp only at hb
          split at hb
          · cases hb
          · cases hb; exact h.1 _ _ _ hx (by omega)
      | _ => rw [hx] at hb; cases hb),
    fun n s p h => (by
      unfold lookS
      refine propext ⟨fun h => h.2, fun hp => ⟨fun a k c hv hc => ?_, hp⟩⟩
      unfold Sl.v at hv
      by_cases h1 : s.nl = true
      · rw [if_pos h1] at hv; cases hv
      · rw [if_neg h1] at hv
        cases hv
        show s.b < n
        rcases h with h | h | h
        · exact h
        · omega
        · exact absurd h h1),
    fun n s p => propext ⟨fun h => h.2, fun hp => ⟨fun a k c hv => (by cases hv), hp⟩⟩,
    fun _ _ _ _ => lookH_no rfl, fun _ _ _ _ _ _ => lookH_no rfl, fun _ _ _ _ _ => lookH_no rfl, fun _ _ _ _ _ => lookH_no rfl⟩
end Go.AM
