/- Texts by their sums: sort.Search, places, texts got. -/
import Derived.Test.YtmelgjblkmbhjaaGreatDoorAmTX
import Derived.Test.YtmelgjblkmbhjaaGreatDoorAmuSum
namespace Go.Proofs.YtmelgjblkmbhjaaGreatDoor.Amu.Place
open Go Go.AM Go.Proofs
set_option linter.unusedVariables false
set_option linter.unusedSimpArgs false
theorem ty3 : tKind Tryz.prog 3 = some (.int .i64) ∧ tSize Tryz.prog 3 = some 1 ∧ tAgg Tryz.prog 3 = some false ∧ tZero Tryz.prog 3 = some (.int .i64 0) := ⟨by kernel_rfl, by kernel_rfl, by kernel_rfl, by kernel_rfl⟩
theorem ty4 : tKind Tryz.prog 4 = some (.bool) ∧ tSize Tryz.prog 4 = some 1 ∧ tAgg Tryz.prog 4 = some false ∧ tZero Tryz.prog 4 = some (.bool false) := ⟨by kernel_rfl, by kernel_rfl, by kernel_rfl, by kernel_rfl⟩
theorem ty9 : tKind Tryz.prog 9 = some (.str) ∧ tSize Tryz.prog 9 = some 1 ∧ tAgg Tryz.prog 9 = some false ∧ tZero Tryz.prog 9 = some (.string ByteArray.empty) := ⟨by kernel_rfl, by kernel_rfl, by kernel_rfl, by kernel_rfl⟩
theorem ty22 : tKind Tryz.prog 22 = some (.slice) ∧ tSize Tryz.prog 22 = some 1 ∧ tAgg Tryz.prog 22 = some false ∧ tZero Tryz.prog 22 = some (.slice none 0 0) ∧ tElem Tryz.prog 22 = some 9 ∧ tElemSize Tryz.prog 22 = some 1 ∧ tBytes Tryz.prog 22 = false := ⟨by kernel_rfl, by kernel_rfl, by kernel_rfl, by kernel_rfl, by kernel_rfl, by kernel_rfl, by kernel_rfl⟩
theorem ty27 : tKind Tryz.prog 27 = some (.slice) ∧ tSize Tryz.prog 27 = some 1 ∧ tAgg Tryz.prog 27 = some false ∧ tZero Tryz.prog 27 = some (.slice none 0 0) ∧ tElem Tryz.prog 27 = some 61 ∧ tElemSize Tryz.prog 27 = some 3 ∧ tBytes Tryz.prog 27 = false := ⟨by kernel_rfl, by kernel_rfl, by kernel_rfl, by kernel_rfl, by kernel_rfl, by kernel_rfl, by kernel_rfl⟩
theorem ty29 : tKind Tryz.prog 29 = some (.struct) ∧ tSize Tryz.prog 29 = some 3 ∧ tAgg Tryz.prog 29 = some true ∧ tZero Tryz.prog 29 = some (.agg #[.int .i64 0, .slice none 0 0, .slice none 0 0]) ∧ tField Tryz.prog 29 0 = some (0, 3) ∧ tField Tryz.prog 29 1 = some (1, 22) ∧ tField Tryz.prog 29 2 = some (2, 27) ∧ tPlaces Tryz.prog 29 = some [(0, 1), (1, 1), (2, 1)] := ⟨by kernel_rfl, by kernel_rfl, by kernel_rfl, by kernel_rfl, by kernel_rfl, by kernel_rfl, by kernel_rfl, by kernel_rfl⟩
theorem ty200 : tKind Tryz.prog 200 = some (.int .u64) ∧ tSize Tryz.prog 200 = some 1 ∧ tAgg Tryz.prog 200 = some false ∧ tZero Tryz.prog 200 = some (.int .u64 0) := ⟨by kernel_rfl, by kernel_rfl, by kernel_rfl, by kernel_rfl⟩

variable {ro : Nat} {X : FuncId → List Value → AH → ARes → AH → Prop}
set_option maxRecDepth 10000
theorem search_a (A : AH) (hro : ro ≤ A.size) (n : Nat) (hn : n < 1152921504606846976) (f : FuncId) (cap : Array Value) (p : Nat → Bool)
    (hf : ∀ (A' : AH) (k : Nat), Ext A A' → k < n → ACalls Tryz.prog ro X f (.int .i64 k :: cap.toList) A' (fun r A'' => r = .ret (.bool (p k)) ∧ Ext A' A'')) :
    ACalls Tryz.prog ro X 166 [.int .i64 n, .func (.func f) #[] cap] A (fun r A' => (∃ i : Nat, i ≤ n ∧ r = .ret (.int .i64 i) ∧ (∀ k, i = k + 1 → p k = false) ∧ (i < n → p i = true)) ∧ Ext A A') := by
  refine ACalls.enterQ (rs := [.tmp 4]) Tryz.func166 rfl (by kernel_rfl) rfl ?_
  simp (maxSteps := 2000000) (disch := first | omega | (simp only [AH.size_new, AH.size_put] <;> omega) | fail) only [amR Tryz.prog ro X, amS, seval, reduceCtorEq, ty3, ty4, ty200]
  refine Wp.loopC (fun m e A' => Ext A A' ∧ e 0 = .int .i64 n ∧ e 1 = .func (.func f) #[] cap ∧ ∃ i j : Nat, i ≤ j ∧ j ≤ n ∧ m = j - i ∧ e 5 = .int .i64 i ∧ e 6 = .int .i64 j ∧ (∀ k, i = k + 1 → p k = false) ∧ (j < n → p j = true)) (n - 0) ?_ ?_
  · simp (maxSteps := 2000000) (disch := first | omega | (simp only [AH.size_new, AH.size_put] <;> omega) | fail) only [amV, amH, amQ, amL, amN Tryz.prog, amS, seval, reduceCtorEq, ty3, ty4, ty200]
    exact ⟨Ext.refl _, 0, n, by omega, by omega, rfl, rfl, rfl, by omega, by omega⟩
  · rintro m e A' ⟨hE, h0, h1, i, j, hij, hjn, rfl, h5, h6, hlo, hhi⟩
    simp (maxSteps := 2000000) (disch := first | omega | (simp only [AH.size_new, AH.size_put] <;> omega) | fail) only [amR Tryz.prog ro X, amS, seval, reduceCtorEq, ty3, ty4, ty200, h5, h6]
    refine CondB.split (fun h => ?_) (fun h => ?_)
    · have hil : i < j := by simpa using h
      simp (maxSteps := 2000000) (disch := first | omega | (simp only [AH.size_new, AH.size_put] <;> omega) | fail) only [amR Tryz.prog ro X, amS, seval, reduceCtorEq, ty3, ty4, ty200, h0, h1, h5, h6]
      have hm : IntKind.i64.wrap (((i : Int) + (j : Int)).fdiv (2 ^ min 1 IntKind.u64.bits)) = ((i + j) / 2 : Nat) := by
        rw [show (2 : Int) ^ min 1 IntKind.u64.bits = 2 from rfl, Int.fdiv_eq_ediv_of_nonneg _ (by decide)]
        have e1 : ((i : Int) + (j : Int)) / 2 = (((i + j) / 2 : Nat) : Int) := by omega
        rw [e1]
        exact i64_small (by omega) (by omega)
      have hk : (i + j) / 2 < n := by omega
      rw [hm]
      refine (hf A' ((i + j) / 2) hE hk).mono ?_
      rintro r A2 ⟨rfl, hE2⟩
      cases hp : p ((i + j) / 2) with
      | true =>
        simp (maxSteps := 2000000) (disch := first | omega | (simp only [AH.size_new, AH.size_put] <;> omega) | fail) only [amR Tryz.prog ro X, amS, seval, reduceCtorEq, ty3, ty4, ty200, h0, h1, h5, h6, hm]
        exact ⟨(i + j) / 2 - i, by omega, hE.trans hE2, i, (i + j) / 2, by omega, by omega, rfl, rfl, rfl, hlo, fun _ => hp⟩
      | false =>
        simp (maxSteps := 2000000) (disch := first | omega | (simp only [AH.size_new, AH.size_put] <;> omega) | fail) only [amR Tryz.prog ro X, amS, seval, reduceCtorEq, ty3, ty4, ty200, h0, h1, h5, h6, hm]
        exact ⟨j - ((i + j) / 2 + 1), by omega, hE.trans hE2, (i + j) / 2 + 1, j, by omega, by omega, rfl, by simp, rfl, fun k hk2 => by rw [← (by omega : (i + j) / 2 = k)]; exact hp, hhi⟩
    · have hil : i = j := by simp at h; omega
      subst hil
      simp (maxSteps := 2000000) (disch := first | omega | (simp only [AH.size_new, AH.size_put] <;> omega) | fail) only [amR Tryz.prog ro X, amS, seval, reduceCtorEq, ty3, ty4, ty200, h0, h1, h5, h6]
      exact ⟨⟨i, hjn, rfl, hlo, hhi⟩, hE⟩
theorem place1_a (A : AH) (hro : ro ≤ A.size) (b2 b3 : Nat) (hb2 : b2 < A.size) (hb3 : b3 < A.size) (w : Int) (s1 : Sl) (v2 : Value) (s : ByteArray) (l : List ByteArray) (F : List Nat) (h1 : SlR A s1 l F) (g2 : A.get b2 = .cells [.int .i64 w, s1.v, v2] 3) (g3 : A.get b3 = .cells [.string s] 1)
    (k : Nat) (hk : k < l.length) : ACalls Tryz.prog ro X 167 [.int .i64 k, .pointer (some ⟨b2, 0, none⟩), .pointer (some ⟨b3, 0, none⟩)] A (fun r A' => r = .ret (.bool (!decide (slt (sumS l[k] w) s))) ∧ Ext A A') := by
  refine ACalls.enterQ (rs := [.tmp 4]) Tryz.func167 rfl (by kernel_rfl) rfl ?_
  obtain ⟨n1, b1, m1, i1, c1, q1⟩ := h1.str hk
  rw [aCell_eq] at c1
  simp (maxSteps := 2000000) (disch := first | omega | (simp only [AH.size_new, AH.size_put] <;> omega) | fail) only [amR Tryz.prog ro X, amS, seval, reduceCtorEq, ty3, ty9, ty22, ty27, ty29]
  refine WpH (A.size) [7] (by kernel_rfl) (.inr (by intro v e A h; simp only [amK, amQ, thenQ, blockQ, endQ, reduceCtorEq, false_and, exists_false] at h)) ?_
  simp (maxSteps := 2000000) (disch := first | omega | (simp only [AH.size_new, AH.size_put] <;> omega) | fail) only [amX Tryz.prog ro X, amR Tryz.prog ro X, amS, seval, reduceCtorEq, ty3, ty9, ty22, ty27, ty29, g2, n1, c1]
  refine (Sum.impl_a _ (by first | omega | (simp only [AH.size_new, AH.size_put] <;> omega)) l[k] w q1).mono ?_
  rintro r A2 ⟨rfl, hE2⟩
  have g4 := (hE2.get b3 hb3).trans g3
  simp (maxSteps := 2000000) (disch := first | omega | (simp only [AH.size_new, AH.size_put] <;> omega) | fail) only [amX Tryz.prog ro X, amR Tryz.prog ro X, amS, seval, reduceCtorEq, ty3, ty9, ty22, ty27, ty29, g4]
  exact ⟨fun b hb => hE2.get b (by omega), by rw [dslt], hE2⟩
theorem place_a (A : AH) (hro : ro ≤ A.size) (w : Int) (s1 : Sl) (v2 : Value) (s : ByteArray) (l : List ByteArray) (F : List Nat) (h1 : SlR A s1 l F) (hR : Rising w l) (hl : l.length < 1152921504606846976) :
    ACalls Tryz.prog ro X 134 [.agg #[.int .i64 w, s1.v, v2], .string s] A (fun r A' => r = .ret (.tuple #[.int .i64 (plc w s l), .bool (getR w s l).isSome]) ∧ Ext A A') := by
  refine ACalls.enterQ (rs := [.tmp 4, .tmp 5]) Tryz.func134 rfl (by kernel_rfl) rfl ?_
  have hlen := h1.len
  simp (maxSteps := 2000000) (disch := first | omega | (simp only [AH.size_new, AH.size_put] <;> omega) | fail) only [amR Tryz.prog ro X, amS, seval, reduceCtorEq, ty3, ty9, ty22, ty27, ty29, hlen, List.map_toArray]
  generalize hA0 : (A.new (.cells [.int .i64 w, s1.v, v2] 3)).new (.cells [.string s] 1) = A0
  have hE0 : Ext A A0 := by rw [← hA0]; exact (Ext.new _ _).trans (Ext.new _ _)
  have hz0 : A0.size = A.size + 2 := by rw [← hA0]; rfl
  have g2 : A0.get A.size = .cells [.int .i64 w, s1.v, v2] 3 := by rw [← hA0, AH.get_new_other (by simp only [AH.size_new]; omega)]; exact AH.get_new_self _ _
  have g3 : A0.get (A.size + 1) = .cells [.string s] 1 := by rw [← hA0]; exact AH.get_new_self _ _
  refine (search_a A0 (by omega) l.length hl _ _ (fun k => if h : k < l.length then !decide (slt (sumS l[k] w) s) else true) (fun A' k hE hk => ?_)).mono ?_
  · have hz := hE.size
    refine (place1_a A' (by omega) A.size (A.size + 1) (by omega) (by omega) w s1 v2 s l F (h1.ext (hE0.trans hE)) ((hE.get _ (by omega)).trans g2) ((hE.get _ (by omega)).trans g3) k hk).mono ?_
    rintro r A2 ⟨rfl, hE2⟩
    exact ⟨by rw [dif_pos hk], hE2⟩
  rintro r A1 ⟨⟨i, hi, rfl, hlo, hhi⟩, hE1⟩
  have hpi : plc w s l = i := plc_search hR hi (fun k hk hik => by have := hlo k hik; rw [dif_pos hk] at this; simpa using this) (fun hil => by have := hhi hil; rw [dif_pos hil] at this; simpa using this)
  have hz1 := hE1.size
  have f2 := (hE1.get A.size (by omega)).trans g2
  have f3 := (hE1.get (A.size + 1) (by omega)).trans g3
  simp (maxSteps := 2000000) (disch := first | omega | (simp only [AH.size_new, AH.size_put] <;> omega) | fail) only [amR Tryz.prog ro X, amS, seval, reduceCtorEq, ty3, ty9, ty22, ty27, ty29, hlen]
  refine WpH (A1.size) [14] (by kernel_rfl) (.inr (by intro v e A h; simp only [amK, amQ, thenQ, blockQ, endQ, reduceCtorEq, false_and, exists_false] at h)) ?_
  by_cases d : (i : Int) < l.length
  · have hil : i < l.length := by omega
    obtain ⟨n1, b1, m1, i1, c1, q1⟩ := (h1.ext (hE0.trans hE1)).str hil
    rw [aCell_eq] at c1
    simp (maxSteps := 2000000) (disch := first | omega | (simp only [AH.size_new, AH.size_put] <;> omega) | fail) only [amX Tryz.prog ro X, amR Tryz.prog ro X, amS, seval, reduceCtorEq, ty3, ty9, ty22, ty27, ty29, hlen, f2, f3, d, n1, c1]
    refine (Sum.impl_a _ (by first | omega | (simp only [AH.size_new, AH.size_put] <;> omega)) l[i] w q1).mono ?_
    rintro r A2 ⟨rfl, hE2⟩
    have z2 := hE2.size
    have f4 := (hE2.get _ (by omega)).trans f3
    by_cases e : sumS l[i] w = s
    · have hg := getR_some (w := w) (s := s) (l := l) (by omega) (by subst hpi; exact e)
      simp (maxSteps := 2000000) (disch := first | omega | (simp only [AH.size_new, AH.size_put] <;> omega) | fail) only [amX Tryz.prog ro X, amR Tryz.prog ro X, amS, seval, reduceCtorEq, ty3, ty9, ty22, ty27, ty29, f4, e]
      exact ⟨fun b hb => hE2.get b (by omega), by subst hpi; rw [hg]; rfl, (by ((repeat' (first | exact Ext.refl _ | assumption | refine Ext.trans ?_ (Ext.new _ _) | refine Ext.put ?_ ?_ _ | refine Ext.trans ?_ (by assumption))) <;> (first | omega | (simp only [AH.size_new, AH.size_put] <;> omega))))⟩
    · have hg := getR_ne (w := w) (s := s) (l := l) (by omega) (by subst hpi; exact e)
      simp (maxSteps := 2000000) (disch := first | omega | (simp only [AH.size_new, AH.size_put] <;> omega) | fail) only [amX Tryz.prog ro X, amR Tryz.prog ro X, amS, seval, reduceCtorEq, ty3, ty9, ty22, ty27, ty29, f4, e]
      exact ⟨fun b hb => hE2.get b (by omega), by subst hpi; rw [hg]; rfl, (by ((repeat' (first | exact Ext.refl _ | assumption | refine Ext.trans ?_ (Ext.new _ _) | refine Ext.put ?_ ?_ _ | refine Ext.trans ?_ (by assumption))) <;> (first | omega | (simp only [AH.size_new, AH.size_put] <;> omega))))⟩
  · have hg := getR_end (w := w) (s := s) (l := l) (by omega)
    simp (maxSteps := 2000000) (disch := first | omega | (simp only [AH.size_new, AH.size_put] <;> omega) | fail) only [amX Tryz.prog ro X, amR Tryz.prog ro X, amS, seval, reduceCtorEq, ty3, ty9, ty22, ty27, ty29, hlen, f2, f3, d]
    exact ⟨by subst hpi; rw [hg]; rfl, (by ((repeat' (first | exact Ext.refl _ | assumption | refine Ext.trans ?_ (Ext.new _ _) | refine Ext.put ?_ ?_ _ | refine Ext.trans ?_ (by assumption))) <;> (first | omega | (simp only [AH.size_new, AH.size_put] <;> omega))))⟩
def getV (o : Option ByteArray) : Value := .tuple #[.string (o.getD ⟨#[]⟩), .bool o.isSome]
theorem get_a (A : AH) (hro : ro ≤ A.size) (w : Int) (s1 : Sl) (v2 : Value) (hv : acells v2 = some [v2]) (s : ByteArray) (l : List ByteArray) (F : List Nat) (h1 : SlR A s1 l F) (hR : Rising w l) (hl : l.length < 1152921504606846976) :
    ACalls Tryz.prog ro X 75 [.agg #[.int .i64 w, s1.v, v2], .string s] A (fun r A' => r = .ret (getV (getR w s l)) ∧ Ext A A') := by
  refine ACalls.enterQ (rs := [.tmp 4, .tmp 5]) Tryz.func75 rfl (by kernel_rfl) rfl ?_
  have hlen := h1.len
  simp (maxSteps := 2000000) (disch := first | omega | (simp only [AH.size_new, AH.size_put] <;> omega) | fail) only [amR Tryz.prog ro X, amS, seval, reduceCtorEq, ty3, ty4, ty9, ty22, ty27, ty29, hlen]
  refine (place_a _ (by first | omega | (simp only [AH.size_new, AH.size_put] <;> omega)) w s1 v2 s l F (h1.ext (by ((repeat' (first | exact Ext.refl _ | assumption | refine Ext.trans ?_ (Ext.new _ _) | refine Ext.put ?_ ?_ _ | refine Ext.trans ?_ (by assumption))) <;> (first | omega | (simp only [AH.size_new, AH.size_put] <;> omega))))) hR hl).mono ?_
  rintro r A1 ⟨rfl, hE1⟩
  have hz1 := hE1.size
  simp only [AH.size_new] at hz1
  have f2 := hE1.get A.size (by first | omega | (simp only [AH.size_new, AH.size_put] <;> omega))
  cases hg : getR w s l with
  | none =>
    simp (maxSteps := 2000000) (disch := first | omega | (simp only [AH.size_new, AH.size_put] <;> omega) | fail) only [amR Tryz.prog ro X, amS, seval, reduceCtorEq, ty3, ty4, ty9, ty22, ty27, ty29, hlen, Option.isSome_none]
    exact ⟨rfl, (by ((repeat' (first | exact Ext.refl _ | assumption | refine Ext.trans ?_ (Ext.new _ _) | refine Ext.put ?_ ?_ _ | refine Ext.trans ?_ (by assumption))) <;> (first | omega | (simp only [AH.size_new, AH.size_put] <;> omega))))⟩
  | some t =>
    have hp : plc w s l < l.length := by
      by_cases h : plc w s l < l.length
      · exact h
      · rw [getR_end h] at hg; cases hg
    have ht : l[plc w s l] = t := by
      by_cases e : sumS l[plc w s l] w = s
      · rw [getR_some hp e] at hg; exact Option.some.inj hg
      · rw [getR_ne hp e] at hg; cases hg
    obtain ⟨n1, b1, m1, i1, c1, q1⟩ := (h1.ext ((Ext.new A _).trans hE1)).str hp
    rw [aCell_eq, ht] at c1
    simp (maxSteps := 2000000) (disch := first | omega | (simp only [AH.size_new, AH.size_put] <;> omega) | fail) only [amR Tryz.prog ro X, amS, seval, reduceCtorEq, ty3, ty4, ty9, ty22, ty27, ty29, hlen, f2, n1, c1, Option.isSome_some]
    exact ⟨rfl, (by ((repeat' (first | exact Ext.refl _ | assumption | refine Ext.trans ?_ (Ext.new _ _) | refine Ext.put ?_ ?_ _ | refine Ext.trans ?_ (by assumption))) <;> (first | omega | (simp only [AH.size_new, AH.size_put] <;> omega))))⟩
theorem l4Place_a (A : AH) (hro : ro ≤ A.size) (w : Int) (s1 : Sl) (v2 : Value) (s : ByteArray) (l : List ByteArray) (F : List Nat) (h1 : SlR A s1 l F) (hl : l.length < 1152921504606846976) :
    ACalls Tryz.prog ro X 125 [.agg #[.int .i64 w, s1.v, v2], .string s] A (fun r A' => r = .ret (.int .i64 (plc w s l)) ∧ Ext A A') := by
  refine ACalls.enterQ (rs := [.tmp 4]) Tryz.func125 rfl (by kernel_rfl) rfl ?_
  have hlen := h1.len
  simp (maxSteps := 2000000) (disch := first | omega | (simp only [AH.size_new, AH.size_put] <;> omega) | fail) only [amR Tryz.prog ro X, amS, seval, reduceCtorEq, ty3, ty9, ty22, ty27, ty29, hlen]
  generalize hA0 : A.new _ = A0
  have hE0 : Ext A A0 := by rw [← hA0]; exact Ext.new _ _
  have hz0 : A0.size = A.size + 1 := by rw [← hA0]; rfl
  have g2 : A0.get A.size = .cells [.int .i64 w, s1.v, v2] 3 := by rw [← hA0]; exact AH.get_new_self _ _
  refine Wp.loopC (fun n e A' => Ext A0 A' ∧ e 1 = .string s ∧ e 2 = .pointer (some ⟨A.size, 0, none⟩) ∧ ∃ i : Nat, i ≤ l.length ∧ n = l.length - i ∧ e 5 = .int .i64 i ∧ ∀ t ∈ l.take i, slt (sumS t w) s) (l.length - 0) ?_ ?_
  · simp (maxSteps := 2000000) (disch := first | omega | (simp only [AH.size_new, AH.size_put] <;> omega) | fail) only [amV, amH, amQ, amL, amN Tryz.prog, amS, seval, reduceCtorEq, ty3, ty9, ty22, ty27, ty29]
    exact ⟨Ext.refl _, 0, by omega, rfl, rfl, by simp⟩
  · rintro n e A' ⟨hE, h1', h2, i, hi, rfl, h5, hall⟩
    have hz := hE.size
    have f2 := (hE.get A.size (by omega)).trans g2
    simp (maxSteps := 2000000) (disch := first | omega | (simp only [AH.size_new, AH.size_put] <;> omega) | fail) only [amX Tryz.prog ro X, amR Tryz.prog ro X, amS, seval, reduceCtorEq, ty3, ty9, ty22, ty27, ty29]
    refine WpH (A'.size) [13] (by kernel_rfl) (.inr (by intro v e A h; simp only [amK, amQ, thenQ, blockQ, endQ, reduceCtorEq, false_and, exists_false] at h)) ?_
    by_cases d : (i : Int) < l.length
    · have hil : i < l.length := by omega
      obtain ⟨n1, b1, m1, i1, c1, q1⟩ := (h1.ext (hE0.trans hE)).str hil
      rw [aCell_eq] at c1
      simp (maxSteps := 2000000) (disch := first | omega | (simp only [AH.size_new, AH.size_put] <;> omega) | fail) only [amX Tryz.prog ro X, amR Tryz.prog ro X, amS, seval, reduceCtorEq, ty3, ty9, ty22, ty27, ty29, hlen, h1', h2, h5, f2, d, n1, c1]
      refine (Sum.spec_a _ (by first | omega | (simp only [AH.size_new, AH.size_put] <;> omega)) l[i] w q1).mono ?_
      rintro r A2 ⟨rfl, hE2⟩
      by_cases hs : slt (sumS l[i] w) s
      · have hs2 := hs
        unfold slt at hs2
        simp (maxSteps := 2000000) (disch := first | omega | (simp only [AH.size_new, AH.size_put] <;> omega) | fail) only [amX Tryz.prog ro X, amR Tryz.prog ro X, amS, seval, reduceCtorEq, ty3, ty9, ty22, ty27, ty29, h1', h2, h5, hs2]
        exact ⟨fun b hb => hE2.get b (by omega), l.length - (i + 1), by omega, hE.trans hE2, i + 1, by omega, rfl, by simp, (all_take_succ hil).2 ⟨hall, hs⟩⟩
      · have hs2 : Op.bytesLess (sumS l[i] w).toList s.toList = false := by simpa [slt] using hs
        simp (maxSteps := 2000000) (disch := first | omega | (simp only [AH.size_new, AH.size_put] <;> omega) | fail) only [amX Tryz.prog ro X, amR Tryz.prog ro X, amS, seval, reduceCtorEq, ty3, ty9, ty22, ty27, ty29, h1', h2, h5, hs2]
        exact ⟨fun b hb => hE2.get b (by omega), by rw [plc_eq i hi hall (fun _ => hs)], hE0.trans (hE.trans hE2)⟩
    · simp (maxSteps := 2000000) (disch := first | omega | (simp only [AH.size_new, AH.size_put] <;> omega) | fail) only [amX Tryz.prog ro X, amR Tryz.prog ro X, amS, seval, reduceCtorEq, ty3, ty9, ty22, ty27, ty29, hlen, h1', h2, h5, f2, d]
      exact ⟨by rw [plc_eq i hi hall (fun h => by omega)], hE0.trans hE⟩
theorem l4Get_a (A : AH) (hro : ro ≤ A.size) (w : Int) (s1 : Sl) (v2 : Value) (hv : acells v2 = some [v2]) (s : ByteArray) (l : List ByteArray) (F : List Nat) (h1 : SlR A s1 l F) (hl : l.length < 1152921504606846976) :
    ACalls Tryz.prog ro X 66 [.agg #[.int .i64 w, s1.v, v2], .string s] A (fun r A' => r = .ret (getV (getR w s l)) ∧ Ext A A') := by
  refine ACalls.enterQ (rs := [.tmp 4, .tmp 5]) Tryz.func66 rfl (by kernel_rfl) rfl ?_
  have hlen := h1.len
  simp (maxSteps := 2000000) (disch := first | omega | (simp only [AH.size_new, AH.size_put] <;> omega) | fail) only [amR Tryz.prog ro X, amS, seval, reduceCtorEq, ty3, ty9, ty22, ty27, ty29, hlen]
  refine (l4Place_a _ (by first | omega | (simp only [AH.size_new, AH.size_put] <;> omega)) w s1 v2 s l F (h1.ext (by ((repeat' (first | exact Ext.refl _ | assumption | refine Ext.trans ?_ (Ext.new _ _) | refine Ext.put ?_ ?_ _ | refine Ext.trans ?_ (by assumption))) <;> (first | omega | (simp only [AH.size_new, AH.size_put] <;> omega))))) hl).mono ?_
  rintro r A1 ⟨rfl, hE1⟩
  have hz1 := hE1.size
  simp only [AH.size_new] at hz1
  have f2 := hE1.get A.size (by first | omega | (simp only [AH.size_new, AH.size_put] <;> omega))
  simp (maxSteps := 2000000) (disch := first | omega | (simp only [AH.size_new, AH.size_put] <;> omega) | fail) only [amX Tryz.prog ro X, amR Tryz.prog ro X, amS, seval, reduceCtorEq, ty3, ty9, ty22, ty27, ty29, f2]
  refine WpH (A1.size) [13] (by kernel_rfl) (.inr (by intro v e A h; simp only [amK, amQ, thenQ, blockQ, endQ, reduceCtorEq, false_and, exists_false] at h)) ?_
  by_cases d : ((plc w s l : Nat) : Int) < l.length
  · have hil : plc w s l < l.length := by omega
    obtain ⟨n1, b1, m1, i1, c1, q1⟩ := (h1.ext ((Ext.new A _).trans hE1)).str hil
    rw [aCell_eq] at c1
    simp (maxSteps := 2000000) (disch := first | omega | (simp only [AH.size_new, AH.size_put] <;> omega) | fail) only [amX Tryz.prog ro X, amR Tryz.prog ro X, amS, seval, reduceCtorEq, ty3, ty9, ty22, ty27, ty29, hlen, f2, d, n1, c1]
    refine (Sum.spec_a _ (by first | omega | (simp only [AH.size_new, AH.size_put] <;> omega)) _ w q1).mono ?_
    rintro r A2 ⟨rfl, hE2⟩
    have hz2 := hE2.size
    have f4 := (hE2.get A.size (by first | omega | (simp only [AH.size_new, AH.size_put] <;> omega))).trans f2
    by_cases e : sumS l[plc w s l] w = s
    · have hg := getR_some hil e
      have c2 : cellK (s1.o + plc w s l) (A2.get s1.b) = _ := (congrArg _ (hE2.get s1.b b1)).trans c1
      simp (maxSteps := 2000000) (disch := first | omega | (simp only [AH.size_new, AH.size_put] <;> omega) | fail) only [amX Tryz.prog ro X, amR Tryz.prog ro X, amS, seval, reduceCtorEq, ty3, ty9, ty22, ty27, ty29, e, f4, hlen, n1, c2]
      exact ⟨fun b hb => hE2.get b (by omega), by rw [hg]; rfl, (by ((repeat' (first | exact Ext.refl _ | assumption | refine Ext.trans ?_ (Ext.new _ _) | refine Ext.put ?_ ?_ _ | refine Ext.trans ?_ (by assumption))) <;> (first | omega | (simp only [AH.size_new, AH.size_put] <;> omega))))⟩
    · have hg := getR_ne hil e
      simp (maxSteps := 2000000) (disch := first | omega | (simp only [AH.size_new, AH.size_put] <;> omega) | fail) only [amX Tryz.prog ro X, amR Tryz.prog ro X, amS, seval, reduceCtorEq, ty3, ty9, ty22, ty27, ty29, e]
      exact ⟨fun b hb => hE2.get b (by omega), by rw [hg]; rfl, (by ((repeat' (first | exact Ext.refl _ | assumption | refine Ext.trans ?_ (Ext.new _ _) | refine Ext.put ?_ ?_ _ | refine Ext.trans ?_ (by assumption))) <;> (first | omega | (simp only [AH.size_new, AH.size_put] <;> omega))))⟩
  · have hg := getR_end (w := w) (s := s) (l := l) (by omega)
    simp (maxSteps := 2000000) (disch := first | omega | (simp only [AH.size_new, AH.size_put] <;> omega) | fail) only [amX Tryz.prog ro X, amR Tryz.prog ro X, amS, seval, reduceCtorEq, ty3, ty9, ty22, ty27, ty29, hlen, f2, d]
    exact ⟨by rw [hg]; rfl, (by ((repeat' (first | exact Ext.refl _ | assumption | refine Ext.trans ?_ (Ext.new _ _) | refine Ext.put ?_ ?_ _ | refine Ext.trans ?_ (by assumption))) <;> (first | omega | (simp only [AH.size_new, AH.size_put] <;> omega))))⟩
end Go.Proofs.YtmelgjblkmbhjaaGreatDoor.Amu.Place
