/- The exact law on FormResult, reckoned. -/
import Derived.Test.YtaiagocjnnfkmaaAmuForm
namespace Go.Proofs.Ytaiagocjnnfkmaa.Amu.LFormResult
open Go Go.AM Go.Proofs
set_option linter.unusedVariables false
set_option linter.unusedSimpArgs false
theorem ty3 : tKind Try.prog 3 = some (.int .i64) ∧ tSize Try.prog 3 = some 1 ∧ tAgg Try.prog 3 = some false ∧ tZero Try.prog 3 = some (.int .i64 0) := ⟨by kernel_rfl, by kernel_rfl, by kernel_rfl, by kernel_rfl⟩
theorem ty4 : tKind Try.prog 4 = some (.bool) ∧ tSize Try.prog 4 = some 1 ∧ tAgg Try.prog 4 = some false ∧ tZero Try.prog 4 = some (.bool false) := ⟨by kernel_rfl, by kernel_rfl, by kernel_rfl, by kernel_rfl⟩
theorem ty9 : tKind Try.prog 9 = some (.str) ∧ tSize Try.prog 9 = some 1 ∧ tAgg Try.prog 9 = some false ∧ tZero Try.prog 9 = some (.string ByteArray.empty) := ⟨by kernel_rfl, by kernel_rfl, by kernel_rfl, by kernel_rfl⟩
theorem ty25 : tKind Try.prog 25 = some (.slice) ∧ tSize Try.prog 25 = some 1 ∧ tAgg Try.prog 25 = some false ∧ tZero Try.prog 25 = some (.slice none 0 0) ∧ tElem Try.prog 25 = some 9 ∧ tElemSize Try.prog 25 = some 1 ∧ tBytes Try.prog 25 = false := ⟨by kernel_rfl, by kernel_rfl, by kernel_rfl, by kernel_rfl, by kernel_rfl, by kernel_rfl, by kernel_rfl⟩
theorem ty27 : tKind Try.prog 27 = some (.struct) ∧ tSize Try.prog 27 = some 3 ∧ tAgg Try.prog 27 = some true ∧ tZero Try.prog 27 = some (.agg #[.int .i64 0, .string ByteArray.empty, .slice none 0 0]) ∧ tField Try.prog 27 0 = some (0, 3) ∧ tField Try.prog 27 1 = some (1, 9) ∧ tField Try.prog 27 2 = some (2, 25) ∧ tPlaces Try.prog 27 = some [(0, 1), (1, 1), (2, 1)] := ⟨by kernel_rfl, by kernel_rfl, by kernel_rfl, by kernel_rfl, by kernel_rfl, by kernel_rfl, by kernel_rfl, by kernel_rfl⟩
theorem ty33 : tKind Try.prog 33 = some (.struct) ∧ tSize Try.prog 33 = some 3 ∧ tAgg Try.prog 33 = some true ∧ tZero Try.prog 33 = some (.agg #[.int .i64 0, .string ByteArray.empty, .slice none 0 0]) ∧ tField Try.prog 33 0 = some (0, 3) ∧ tField Try.prog 33 1 = some (1, 9) ∧ tField Try.prog 33 2 = some (2, 25) ∧ tPlaces Try.prog 33 = some [(0, 1), (1, 1), (2, 1)] := ⟨by kernel_rfl, by kernel_rfl, by kernel_rfl, by kernel_rfl, by kernel_rfl, by kernel_rfl, by kernel_rfl, by kernel_rfl⟩

variable {ro : Nat} {X : FuncId → List Value → AH → ARes → AH → Prop}
set_option maxRecDepth 10000
theorem law_a (A : AH) (hro : ro ≤ A.size) (x0 : TResult) (c0 : List Value) (F0 : List Nat) (h0 : Dat.rep A x0 c0 F0) (b0 : Mk.bd x0) :
    ACalls Try.prog ro X 6 [.agg c0.toArray] A (fun r _ => r = .ret (.bool true)) := by
  refine ACalls.enterQ (rs := [.tmp 2]) Try.func6 rfl (by kernel_rfl) rfl ?_
  have hh0 := h0
  obtain ⟨w0k1, _, rfl, _, _, _⟩ := rep_Result.1 hh0
  simp (maxSteps := 2000000) (disch := first | omega | (simp only [AH.size_new, AH.size_put] <;> omega) | fail) only [amR Try.prog ro X, amS, seval, reduceCtorEq, ty3, ty4, ty9, ty25, ty27, ty33]
  refine (Law.sz_Result _ (by first | omega | (simp only [AH.size_new, AH.size_put] <;> omega)) x0 _ _ (Dat.ext h0 (by ((repeat' (first | exact Ext.refl _ | assumption | refine Ext.trans ?_ (Ext.new _ _) | refine Ext.put ?_ ?_ _ | refine Ext.trans ?_ (by assumption))) <;> (first | omega | (simp only [AH.size_new, AH.size_put] <;> omega))))) b0 (1048576) (by omega)).mono ?_
  rintro r B1 ⟨rfl, hE1⟩
  have v1 := hE1.size
  try simp only [AH.size_new, AH.size_put] at v1
  by_cases z0 : 1048576 - (Mk.sz x0 : Nat) < (0 : Int)
  · rw [szR_neg z0]
    simp (maxSteps := 2000000) (disch := first | omega | (simp only [AH.size_new, AH.size_put] <;> omega) | fail) only [amR Try.prog ro X, amS, seval, reduceCtorEq, ty3, ty4, ty9, ty25, ty27, ty33, hE1.get]
  rw [szR_pos z0]
  simp (maxSteps := 2000000) (disch := first | omega | (simp only [AH.size_new, AH.size_put] <;> omega) | fail) only [amR Try.prog ro X, amS, seval, reduceCtorEq, ty3, ty4, ty9, ty25, ty27, ty33, hE1.get, z0]
  refine (Law.to_Result _ (by first | omega | (simp only [AH.size_new, AH.size_put] <;> omega)) x0 _ _ (Dat.ext h0 (by ((repeat' (first | exact Ext.refl _ | assumption | refine Ext.trans ?_ (Ext.new _ _) | refine Ext.put ?_ ?_ _ | refine Ext.trans ?_ (by assumption))) <;> (first | omega | (simp only [AH.size_new, AH.size_put] <;> omega))))) (by omega)).mono ?_
  rintro r B2 ⟨cc, H0w, rfl, qq, f0w, hE2⟩
  obtain ⟨t0k1w, G0k1w, rfl, hH0w, y0k1w, q0k1w⟩ := rep_Result.1 qq
  have u0k1w := big_lt y0k1w
  have v2 := hE2.size
  try simp only [AH.size_new, AH.size_put] at v2
  simp (maxSteps := 2000000) (disch := first | omega | (simp only [AH.size_new, AH.size_put] <;> omega) | fail) only [amR Try.prog ro X, amS, seval, reduceCtorEq, ty3, ty4, ty9, ty25, ty27, ty33, hE1.get, hE2.get]
  refine (Form.specForm_a _ (by first | omega | (simp only [AH.size_new, AH.size_put] <;> omega)) x0.1 x0.2.1 t0k1w _ _ (q0k1w.ext (by ((repeat' (first | exact Ext.refl _ | assumption | refine Ext.trans ?_ (Ext.new _ _) | refine Ext.put ?_ ?_ _ | refine Ext.trans ?_ (by assumption))) <;> (first | omega | (simp only [AH.size_new, AH.size_put] <;> omega))))) u0k1w).mono ?_
  rintro r B3 ⟨rfl, hE3⟩
  have v3 := hE3.size
  try simp only [AH.size_new, AH.size_put] at v3
  simp (maxSteps := 2000000) (disch := first | omega | (simp only [AH.size_new, AH.size_put] <;> omega) | fail) only [amR Try.prog ro X, amS, seval, reduceCtorEq, ty3, ty4, ty9, ty25, ty27, ty33, hE1.get, hE2.get, hE3.get]
  refine (Law.to_Result _ (by first | omega | (simp only [AH.size_new, AH.size_put] <;> omega)) x0 _ _ (Dat.ext h0 (by ((repeat' (first | exact Ext.refl _ | assumption | refine Ext.trans ?_ (Ext.new _ _) | refine Ext.put ?_ ?_ _ | refine Ext.trans ?_ (by assumption))) <;> (first | omega | (simp only [AH.size_new, AH.size_put] <;> omega))))) (by omega)).mono ?_
  rintro r B4 ⟨cc, H0x, rfl, qq, f0x, hE4⟩
  obtain ⟨t0k1x, G0k1x, rfl, hH0x, y0k1x, q0k1x⟩ := rep_Result.1 qq
  have u0k1x := big_lt y0k1x
  have v4 := hE4.size
  try simp only [AH.size_new, AH.size_put] at v4
  simp (maxSteps := 2000000) (disch := first | omega | (simp only [AH.size_new, AH.size_put] <;> omega) | fail) only [amR Try.prog ro X, amS, seval, reduceCtorEq, ty3, ty4, ty9, ty25, ty27, ty33, hE1.get, hE2.get, hE3.get, hE4.get]
  refine (Form.implForm_a _ (by first | omega | (simp only [AH.size_new, AH.size_put] <;> omega)) x0.1 x0.2.1 t0k1x _ _ (q0k1x.ext (by ((repeat' (first | exact Ext.refl _ | assumption | refine Ext.trans ?_ (Ext.new _ _) | refine Ext.put ?_ ?_ _ | refine Ext.trans ?_ (by assumption))) <;> (first | omega | (simp only [AH.size_new, AH.size_put] <;> omega))))) u0k1x).mono ?_
  rintro r B5 ⟨rfl, hE5⟩
  have v5 := hE5.size
  try simp only [AH.size_new, AH.size_put] at v5
  simp (maxSteps := 2000000) (disch := first | omega | (simp only [AH.size_new, AH.size_put] <;> omega) | fail) only [amR Try.prog ro X, amS, seval, reduceCtorEq, ty3, ty4, ty9, ty25, ty27, ty33, hE1.get, hE2.get, hE3.get, hE4.get, hE5.get]
  refine Wp.runG [2] (by kernel_rfl) (.inl (by kernel_rfl)) ?_
  simp (maxSteps := 2000000) (disch := first | omega | (simp only [AH.size_new, AH.size_put] <;> omega) | fail) only [amR Try.prog ro X, amS, seval, reduceCtorEq, ty3, ty4, ty9, ty25, ty27, ty33, hE1.get, hE2.get, hE3.get, hE4.get, hE5.get]
  refine (Law.to_Result _ (by first | omega | (simp only [AH.size_new, AH.size_put] <;> omega)) x0 _ _ (Dat.ext h0 (by ((repeat' (first | exact Ext.refl _ | assumption | refine Ext.trans ?_ (Ext.new _ _) | refine Ext.put ?_ ?_ _ | refine Ext.trans ?_ (by assumption))) <;> (first | omega | (simp only [AH.size_new, AH.size_put] <;> omega))))) (by omega)).mono ?_
  rintro r B6 ⟨cc, H0y, rfl, qq, f0y, hE6⟩
  obtain ⟨t0k1y, G0k1y, rfl, hH0y, y0k1y, q0k1y⟩ := rep_Result.1 qq
  have u0k1y := big_lt y0k1y
  have v6 := hE6.size
  try simp only [AH.size_new, AH.size_put] at v6
  simp (maxSteps := 2000000) (disch := first | omega | (simp only [AH.size_new, AH.size_put] <;> omega) | fail) only [amR Try.prog ro X, amS, seval, reduceCtorEq, ty3, ty4, ty9, ty25, ty27, ty33, hE1.get, hE2.get, hE3.get, hE4.get, hE5.get]
  refine ⟨fun b hb => hE6.get b hb, ?_⟩
  try simp (maxSteps := 2000000) (disch := first | omega | (simp only [AH.size_new, AH.size_put] <;> omega) | fail) only [amR Try.prog ro X, amS, seval, reduceCtorEq, ty3, ty4, ty9, ty25, ty27, ty33, hE1.get, hE2.get, hE3.get, hE4.get, hE5.get, hE6.get]
  refine (Law.eq_Result _ (by first | omega | (simp only [AH.size_new, AH.size_put] <;> omega)) x0 x0 _ _ _ _ (rep_Result.2 ⟨t0k1x, _, rfl, rfl, y0k1x, q0k1x.ext (by ((repeat' (first | exact Ext.refl _ | assumption | refine Ext.trans ?_ (Ext.new _ _) | refine Ext.put ?_ ?_ _ | refine Ext.trans ?_ (by assumption))) <;> (first | omega | (simp only [AH.size_new, AH.size_put] <;> omega))))⟩) (rep_Result.2 ⟨t0k1y, _, rfl, rfl, y0k1y, q0k1y.ext (by ((repeat' (first | exact Ext.refl _ | assumption | refine Ext.trans ?_ (Ext.new _ _) | refine Ext.put ?_ ?_ _ | refine Ext.trans ?_ (by assumption))) <;> (first | omega | (simp only [AH.size_new, AH.size_put] <;> omega))))⟩) (by omega)).mono ?_
  rintro r B7 ⟨rfl, hE7⟩
  have v7 := hE7.size
  try simp only [AH.size_new, AH.size_put] at v7
  simp (maxSteps := 2000000) (disch := first | omega | (simp only [AH.size_new, AH.size_put] <;> omega) | fail) only [amR Try.prog ro X, amS, seval, reduceCtorEq, ty3, ty4, ty9, ty25, ty27, ty33, hE1.get, hE2.get, hE3.get, hE4.get, hE5.get, hE6.get, hE7.get]
end Go.Proofs.Ytaiagocjnnfkmaa.Amu.LFormResult
