/- The exact law on Clash, reckoned. -/
import Derived.Test.YtaiagocjnnfkmaaAmuClash
import Derived.Test.YtaiagocjnnfkmaaAmuLawA
namespace Go.Proofs.Ytaiagocjnnfkmaa.Amu.LClash
open Go Go.AM Go.Proofs
set_option linter.unusedVariables false
set_option linter.unusedSimpArgs false
theorem ty3 : tKind Try.prog 3 = some (.int .i64) ∧ tSize Try.prog 3 = some 1 ∧ tAgg Try.prog 3 = some false ∧ tZero Try.prog 3 = some (.int .i64 0) := ⟨by kernel_rfl, by kernel_rfl, by kernel_rfl, by kernel_rfl⟩
theorem ty4 : tKind Try.prog 4 = some (.bool) ∧ tSize Try.prog 4 = some 1 ∧ tAgg Try.prog 4 = some false ∧ tZero Try.prog 4 = some (.bool false) := ⟨by kernel_rfl, by kernel_rfl, by kernel_rfl, by kernel_rfl⟩
theorem ty9 : tKind Try.prog 9 = some (.str) ∧ tSize Try.prog 9 = some 1 ∧ tAgg Try.prog 9 = some false ∧ tZero Try.prog 9 = some (.string ByteArray.empty) := ⟨by kernel_rfl, by kernel_rfl, by kernel_rfl, by kernel_rfl⟩

variable {ro : Nat} {X : FuncId → List Value → AH → ARes → AH → Prop}
set_option maxRecDepth 10000
theorem law_a (A : AH) (hro : ro ≤ A.size) (s0 : Sl) (x0 : List ByteArray) (F0 : List Nat) (h0 : SlR A s0 x0 F0) (b0 : Mk.bd x0) (x1 : Int) (hx1 : -9223372036854775808 ≤ x1 ∧ x1 ≤ 9223372036854775807) :
    ACalls Try.prog ro X 7 [s0.v, .int .i64 x1] A (fun r _ => r = .ret (.bool true)) := by
  refine ACalls.enterQ (rs := [.tmp 4]) Try.func7 rfl (by kernel_rfl) rfl ?_
  obtain ⟨ra, rb, rc, hr⟩ := clashV_ex (clashR x0 x1)
  simp (maxSteps := 2000000) (disch := first | omega | (simp only [AH.size_new, AH.size_put] <;> omega) | fail) only [amR Try.prog ro X, amS, seval, reduceCtorEq, ty3, ty4, ty9]
  refine (Law.szL_str _ (by first | omega | (simp only [AH.size_new, AH.size_put] <;> omega)) s0 x0 _ (h0.ext (by ((repeat' (first | exact Ext.refl _ | assumption | refine Ext.trans ?_ (Ext.new _ _) | refine Ext.put ?_ ?_ _ | refine Ext.trans ?_ (by assumption))) <;> (first | omega | (simp only [AH.size_new, AH.size_put] <;> omega))))) b0 (1048576) (by omega)).mono ?_
  rintro r B1 ⟨rfl, hE1⟩
  have v1 := hE1.size
  try simp only [AH.size_new, AH.size_put] at v1
  by_cases z0 : 1048576 - (szL Mk.sz x0 : Nat) < (0 : Int)
  · rw [szR_neg z0]
    simp (maxSteps := 2000000) (disch := first | omega | (simp only [AH.size_new, AH.size_put] <;> omega) | fail) only [amR Try.prog ro X, amS, seval, reduceCtorEq, ty3, ty4, ty9, hE1.get]
  rw [szR_pos z0]
  simp (maxSteps := 2000000) (disch := first | omega | (simp only [AH.size_new, AH.size_put] <;> omega) | fail) only [amR Try.prog ro X, amS, seval, reduceCtorEq, ty3, ty4, ty9, hE1.get, z0]
  refine (Law.toL_str _ (by first | omega | (simp only [AH.size_new, AH.size_put] <;> omega)) s0 x0 _ (h0.ext (by ((repeat' (first | exact Ext.refl _ | assumption | refine Ext.trans ?_ (Ext.new _ _) | refine Ext.put ?_ ?_ _ | refine Ext.trans ?_ (by assumption))) <;> (first | omega | (simp only [AH.size_new, AH.size_put] <;> omega))))) (by omega)).mono ?_
  rintro r B2 ⟨t0k1w, H0w, rfl, q0k1w, f0w, hE2⟩
  have v2 := hE2.size
  try simp only [AH.size_new, AH.size_put] at v2
  simp (maxSteps := 2000000) (disch := first | omega | (simp only [AH.size_new, AH.size_put] <;> omega) | fail) only [amR Try.prog ro X, amS, seval, reduceCtorEq, ty3, ty4, ty9, hE1.get, hE2.get]
  refine (Clash.specClash_a _ (by first | omega | (simp only [AH.size_new, AH.size_put] <;> omega)) t0k1w _ _ (q0k1w.ext (by ((repeat' (first | exact Ext.refl _ | assumption | refine Ext.trans ?_ (Ext.new _ _) | refine Ext.put ?_ ?_ _ | refine Ext.trans ?_ (by assumption))) <;> (first | omega | (simp only [AH.size_new, AH.size_put] <;> omega))))) x1 (by have := b0.1; omega)).mono ?_
  rintro r B3 ⟨rfl, hE3⟩
  have v3 := hE3.size
  try simp only [AH.size_new, AH.size_put] at v3
  rw [hr]
  simp (maxSteps := 2000000) (disch := first | omega | (simp only [AH.size_new, AH.size_put] <;> omega) | fail) only [amR Try.prog ro X, amS, seval, reduceCtorEq, ty3, ty4, ty9, hE1.get, hE2.get, hE3.get]
  refine (Law.toL_str _ (by first | omega | (simp only [AH.size_new, AH.size_put] <;> omega)) s0 x0 _ (h0.ext (by ((repeat' (first | exact Ext.refl _ | assumption | refine Ext.trans ?_ (Ext.new _ _) | refine Ext.put ?_ ?_ _ | refine Ext.trans ?_ (by assumption))) <;> (first | omega | (simp only [AH.size_new, AH.size_put] <;> omega))))) (by omega)).mono ?_
  rintro r B4 ⟨t0k1x, H0x, rfl, q0k1x, f0x, hE4⟩
  have v4 := hE4.size
  try simp only [AH.size_new, AH.size_put] at v4
  simp (maxSteps := 2000000) (disch := first | omega | (simp only [AH.size_new, AH.size_put] <;> omega) | fail) only [amR Try.prog ro X, amS, seval, reduceCtorEq, ty3, ty4, ty9, hE1.get, hE2.get, hE3.get, hE4.get]
  refine (Clash.implClash_a _ (by first | omega | (simp only [AH.size_new, AH.size_put] <;> omega)) t0k1x _ _ (q0k1x.ext (by ((repeat' (first | exact Ext.refl _ | assumption | refine Ext.trans ?_ (Ext.new _ _) | refine Ext.put ?_ ?_ _ | refine Ext.trans ?_ (by assumption))) <;> (first | omega | (simp only [AH.size_new, AH.size_put] <;> omega))))) x1 (by have := b0.1; omega)).mono ?_
  rintro r B5 ⟨rfl, hE5⟩
  have v5 := hE5.size
  try simp only [AH.size_new, AH.size_put] at v5
  rw [hr]
  simp (maxSteps := 2000000) (disch := first | omega | (simp only [AH.size_new, AH.size_put] <;> omega) | fail) only [amR Try.prog ro X, amS, seval, reduceCtorEq, ty3, ty4, ty9, hE1.get, hE2.get, hE3.get, hE4.get, hE5.get]
  refine (Law.toL_str _ (by first | omega | (simp only [AH.size_new, AH.size_put] <;> omega)) s0 x0 _ (h0.ext (by ((repeat' (first | exact Ext.refl _ | assumption | refine Ext.trans ?_ (Ext.new _ _) | refine Ext.put ?_ ?_ _ | refine Ext.trans ?_ (by assumption))) <;> (first | omega | (simp only [AH.size_new, AH.size_put] <;> omega))))) (by omega)).mono ?_
  rintro r B6 ⟨t0k1y, H0y, rfl, q0k1y, f0y, hE6⟩
  have v6 := hE6.size
  try simp only [AH.size_new, AH.size_put] at v6
  simp (maxSteps := 2000000) (disch := first | omega | (simp only [AH.size_new, AH.size_put] <;> omega) | fail) only [amR Try.prog ro X, amS, seval, reduceCtorEq, ty3, ty4, ty9, hE1.get, hE2.get, hE3.get, hE4.get, hE5.get, hE6.get]
  refine (Law.eqL_str _ (by first | omega | (simp only [AH.size_new, AH.size_put] <;> omega)) t0k1x t0k1y _ _ _ _ (q0k1x.ext (by ((repeat' (first | exact Ext.refl _ | assumption | refine Ext.trans ?_ (Ext.new _ _) | refine Ext.put ?_ ?_ _ | refine Ext.trans ?_ (by assumption))) <;> (first | omega | (simp only [AH.size_new, AH.size_put] <;> omega))))) (q0k1y.ext (by ((repeat' (first | exact Ext.refl _ | assumption | refine Ext.trans ?_ (Ext.new _ _) | refine Ext.put ?_ ?_ _ | refine Ext.trans ?_ (by assumption))) <;> (first | omega | (simp only [AH.size_new, AH.size_put] <;> omega))))) (by omega)).mono ?_
  rintro r B7 ⟨rfl, hE7⟩
  have v7 := hE7.size
  try simp only [AH.size_new, AH.size_put] at v7
  simp (maxSteps := 2000000) (disch := first | omega | (simp only [AH.size_new, AH.size_put] <;> omega) | fail) only [amR Try.prog ro X, amS, seval, reduceCtorEq, ty3, ty4, ty9, hE1.get, hE2.get, hE3.get, hE4.get, hE5.get, hE6.get, hE7.get]
end Go.Proofs.Ytaiagocjnnfkmaa.Amu.LClash
