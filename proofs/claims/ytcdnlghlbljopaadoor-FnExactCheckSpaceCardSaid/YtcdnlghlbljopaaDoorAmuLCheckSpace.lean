/- The exact law on CheckSpace, reckoned. -/
import Derived.Test.YtcdnlghlbljopaaDoorAmuSpace
import Derived.Test.YtcdnlghlbljopaaDoorAmuSpace2
import Derived.Test.YtcdnlghlbljopaaDoorAmuLawA
namespace Go.Proofs.YtcdnlghlbljopaaDoor.Amu.LCheckSpace
open Go Go.AM Go.Proofs
set_option linter.unusedVariables false
set_option linter.unusedSimpArgs false
theorem ty3 : tKind Tryd.prog 3 = some (.int .i64) ∧ tSize Tryd.prog 3 = some 1 ∧ tAgg Tryd.prog 3 = some false ∧ tZero Tryd.prog 3 = some (.int .i64 0) := ⟨by kernel_rfl, by kernel_rfl, by kernel_rfl, by kernel_rfl⟩
theorem ty4 : tKind Tryd.prog 4 = some (.bool) ∧ tSize Tryd.prog 4 = some 1 ∧ tAgg Tryd.prog 4 = some false ∧ tZero Tryd.prog 4 = some (.bool false) := ⟨by kernel_rfl, by kernel_rfl, by kernel_rfl, by kernel_rfl⟩
theorem ty33 : tKind Tryd.prog 33 = some (.slice) ∧ tSize Tryd.prog 33 = some 1 ∧ tAgg Tryd.prog 33 = some false ∧ tZero Tryd.prog 33 = some (.slice none 0 0) ∧ tElem Tryd.prog 33 = some 196 ∧ tElemSize Tryd.prog 33 = some 2 ∧ tBytes Tryd.prog 33 = false := ⟨by kernel_rfl, by kernel_rfl, by kernel_rfl, by kernel_rfl, by kernel_rfl, by kernel_rfl, by kernel_rfl⟩
theorem ty34 : tKind Tryd.prog 34 = some (.slice) ∧ tSize Tryd.prog 34 = some 1 ∧ tAgg Tryd.prog 34 = some false ∧ tZero Tryd.prog 34 = some (.slice none 0 0) ∧ tElem Tryd.prog 34 = some 199 ∧ tElemSize Tryd.prog 34 = some 2 ∧ tBytes Tryd.prog 34 = false := ⟨by kernel_rfl, by kernel_rfl, by kernel_rfl, by kernel_rfl, by kernel_rfl, by kernel_rfl, by kernel_rfl⟩
theorem ty36 : tKind Tryd.prog 36 = some (.struct) ∧ tSize Tryd.prog 36 = some 2 ∧ tAgg Tryd.prog 36 = some true ∧ tZero Tryd.prog 36 = some (.agg #[.slice none 0 0, .slice none 0 0]) ∧ tField Tryd.prog 36 0 = some (0, 33) ∧ tField Tryd.prog 36 1 = some (1, 34) ∧ tPlaces Tryd.prog 36 = some [(0, 1), (1, 1)] := ⟨by kernel_rfl, by kernel_rfl, by kernel_rfl, by kernel_rfl, by kernel_rfl, by kernel_rfl, by kernel_rfl⟩
theorem ty39 : tKind Tryd.prog 39 = some (.slice) ∧ tSize Tryd.prog 39 = some 1 ∧ tAgg Tryd.prog 39 = some false ∧ tZero Tryd.prog 39 = some (.slice none 0 0) ∧ tElem Tryd.prog 39 = some 116 ∧ tElemSize Tryd.prog 39 = some 2 ∧ tBytes Tryd.prog 39 = false := ⟨by kernel_rfl, by kernel_rfl, by kernel_rfl, by kernel_rfl, by kernel_rfl, by kernel_rfl, by kernel_rfl⟩
theorem ty40 : tKind Tryd.prog 40 = some (.slice) ∧ tSize Tryd.prog 40 = some 1 ∧ tAgg Tryd.prog 40 = some false ∧ tZero Tryd.prog 40 = some (.slice none 0 0) ∧ tElem Tryd.prog 40 = some 118 ∧ tElemSize Tryd.prog 40 = some 2 ∧ tBytes Tryd.prog 40 = false := ⟨by kernel_rfl, by kernel_rfl, by kernel_rfl, by kernel_rfl, by kernel_rfl, by kernel_rfl, by kernel_rfl⟩
theorem ty42 : tKind Tryd.prog 42 = some (.struct) ∧ tSize Tryd.prog 42 = some 2 ∧ tAgg Tryd.prog 42 = some true ∧ tZero Tryd.prog 42 = some (.agg #[.slice none 0 0, .slice none 0 0]) ∧ tField Tryd.prog 42 0 = some (0, 39) ∧ tField Tryd.prog 42 1 = some (1, 40) ∧ tPlaces Tryd.prog 42 = some [(0, 1), (1, 1)] := ⟨by kernel_rfl, by kernel_rfl, by kernel_rfl, by kernel_rfl, by kernel_rfl, by kernel_rfl, by kernel_rfl⟩

variable {ro : Nat} {X : FuncId → List Value → AH → ARes → AH → Prop}
set_option maxRecDepth 10000
theorem law_a (A : AH) (hro : ro ≤ A.size) (hT : Tab 0 A) (x0 : TSpace) (c0 : List Value) (F0 : List Nat) (h0 : Dat.rep A x0 c0 F0) (b0 : Mk.bd x0) :
    ACalls Tryd.prog ro X 4 [.agg c0.toArray] A (fun r _ => r = .ret (.bool true)) := by
  refine ACalls.enterQ (rs := [.tmp 2]) Tryd.func4 rfl (by kernel_rfl) rfl ?_
  have hh0 := h0
  obtain ⟨w0k1, w0k2, _, _, rfl, _, _, _⟩ := rep_Space.1 hh0
  simp (maxSteps := 2000000) (disch := first | omega | (simp only [AH.size_new, AH.size_put] <;> omega) | fail) only [amR Tryd.prog ro X, amS, seval, reduceCtorEq, ty3, ty4, ty33, ty34, ty36, ty39, ty40, ty42]
  refine (Law.sz_Space _ (by first | omega | (simp only [AH.size_new, AH.size_put] <;> omega)) x0 _ _ (Dat.ext h0 (by ((repeat' (first | exact Ext.refl _ | assumption | refine Ext.trans ?_ (Ext.new _ _) | refine Ext.put ?_ ?_ _ | refine Ext.trans ?_ (by assumption))) <;> (first | omega | (simp only [AH.size_new, AH.size_put] <;> omega))))) b0 (1048576) (by omega)).mono ?_
  rintro r B1 ⟨rfl, hE1⟩
  have v1 := hE1.size
  try simp only [AH.size_new, AH.size_put] at v1
  by_cases z0 : 1048576 - (Mk.sz x0 : Nat) < (0 : Int)
  · rw [szR_neg z0]
    simp (maxSteps := 2000000) (disch := first | omega | (simp only [AH.size_new, AH.size_put] <;> omega) | fail) only [amR Tryd.prog ro X, amS, seval, reduceCtorEq, ty3, ty4, ty33, ty34, ty36, ty39, ty40, ty42, hE1.get]
  rw [szR_pos z0]
  simp (maxSteps := 2000000) (disch := first | omega | (simp only [AH.size_new, AH.size_put] <;> omega) | fail) only [amR Tryd.prog ro X, amS, seval, reduceCtorEq, ty3, ty4, ty33, ty34, ty36, ty39, ty40, ty42, hE1.get, z0]
  refine (Law.to_Space _ (by first | omega | (simp only [AH.size_new, AH.size_put] <;> omega)) x0 _ _ (Dat.ext h0 (by ((repeat' (first | exact Ext.refl _ | assumption | refine Ext.trans ?_ (Ext.new _ _) | refine Ext.put ?_ ?_ _ | refine Ext.trans ?_ (by assumption))) <;> (first | omega | (simp only [AH.size_new, AH.size_put] <;> omega))))) (by omega)).mono ?_
  rintro r B2 ⟨cc, H0w, rfl, qq, f0w, hE2⟩
  obtain ⟨t0k1w, t0k2w, G0k1w, G0k2w, rfl, hH0w, q0k1w, q0k2w⟩ := rep_Space.1 qq
  have v2 := hE2.size
  try simp only [AH.size_new, AH.size_put] at v2
  simp (maxSteps := 2000000) (disch := first | omega | (simp only [AH.size_new, AH.size_put] <;> omega) | fail) only [amR Tryd.prog ro X, amS, seval, reduceCtorEq, ty3, ty4, ty33, ty34, ty36, ty39, ty40, ty42, hE1.get, hE2.get]
  refine (Space.specCheck_a _ (by first | omega | (simp only [AH.size_new, AH.size_put] <;> omega)) t0k1w t0k2w x0 _ _ (q0k1w.ext (by ((repeat' (first | exact Ext.refl _ | assumption | refine Ext.trans ?_ (Ext.new _ _) | refine Ext.put ?_ ?_ _ | refine Ext.trans ?_ (by assumption))) <;> (first | omega | (simp only [AH.size_new, AH.size_put] <;> omega))))) (q0k2w.ext (by ((repeat' (first | exact Ext.refl _ | assumption | refine Ext.trans ?_ (Ext.new _ _) | refine Ext.put ?_ ?_ _ | refine Ext.trans ?_ (by assumption))) <;> (first | omega | (simp only [AH.size_new, AH.size_put] <;> omega))))) (by have := b0.1.1; omega) (by have := b0.2.1; omega) (fun t ht => (b0.2.2 t ht).2.1)).mono ?_
  rintro r B3 ⟨rfl, hE3⟩
  have v3 := hE3.size
  try simp only [AH.size_new, AH.size_put] at v3
  simp (maxSteps := 2000000) (disch := first | omega | (simp only [AH.size_new, AH.size_put] <;> omega) | fail) only [amR Tryd.prog ro X, amS, seval, reduceCtorEq, ty3, ty4, ty33, ty34, ty36, ty39, ty40, ty42, hE1.get, hE2.get, hE3.get]
  refine (Law.to_Space _ (by first | omega | (simp only [AH.size_new, AH.size_put] <;> omega)) x0 _ _ (Dat.ext h0 (by ((repeat' (first | exact Ext.refl _ | assumption | refine Ext.trans ?_ (Ext.new _ _) | refine Ext.put ?_ ?_ _ | refine Ext.trans ?_ (by assumption))) <;> (first | omega | (simp only [AH.size_new, AH.size_put] <;> omega))))) (by omega)).mono ?_
  rintro r B4 ⟨cc, H0x, rfl, qq, f0x, hE4⟩
  obtain ⟨t0k1x, t0k2x, G0k1x, G0k2x, rfl, hH0x, q0k1x, q0k2x⟩ := rep_Space.1 qq
  have v4 := hE4.size
  try simp only [AH.size_new, AH.size_put] at v4
  simp (maxSteps := 2000000) (disch := first | omega | (simp only [AH.size_new, AH.size_put] <;> omega) | fail) only [amR Tryd.prog ro X, amS, seval, reduceCtorEq, ty3, ty4, ty33, ty34, ty36, ty39, ty40, ty42, hE1.get, hE2.get, hE3.get, hE4.get]
  refine (Space2.implCheck_a _ (by first | omega | (simp only [AH.size_new, AH.size_put] <;> omega)) (hT.ext (by ((repeat' (first | exact Ext.refl _ | assumption | refine Ext.trans ?_ (Ext.new _ _) | refine Ext.put ?_ ?_ _ | refine Ext.trans ?_ (by assumption))) <;> (first | omega | (simp only [AH.size_new, AH.size_put] <;> omega))))) t0k1x t0k2x x0 _ _ (q0k1x.ext (by ((repeat' (first | exact Ext.refl _ | assumption | refine Ext.trans ?_ (Ext.new _ _) | refine Ext.put ?_ ?_ _ | refine Ext.trans ?_ (by assumption))) <;> (first | omega | (simp only [AH.size_new, AH.size_put] <;> omega))))) (q0k2x.ext (by ((repeat' (first | exact Ext.refl _ | assumption | refine Ext.trans ?_ (Ext.new _ _) | refine Ext.put ?_ ?_ _ | refine Ext.trans ?_ (by assumption))) <;> (first | omega | (simp only [AH.size_new, AH.size_put] <;> omega))))) (by have := b0.1.1; omega) (by have := b0.2.1; omega)).mono ?_
  rintro r B5 ⟨rfl, hE5⟩
  have v5 := hE5.size
  try simp only [AH.size_new, AH.size_put] at v5
  simp (maxSteps := 2000000) (disch := first | omega | (simp only [AH.size_new, AH.size_put] <;> omega) | fail) only [amR Tryd.prog ro X, amS, seval, reduceCtorEq, ty3, ty4, ty33, ty34, ty36, ty39, ty40, ty42, hE1.get, hE2.get, hE3.get, hE4.get, hE5.get]
  refine Wp.runG [2] (by kernel_rfl) (.inl (by kernel_rfl)) ?_
  simp (maxSteps := 2000000) (disch := first | omega | (simp only [AH.size_new, AH.size_put] <;> omega) | fail) only [amR Tryd.prog ro X, amS, seval, reduceCtorEq, ty3, ty4, ty33, ty34, ty36, ty39, ty40, ty42, hE1.get, hE2.get, hE3.get, hE4.get, hE5.get]
  refine (Law.to_Space _ (by first | omega | (simp only [AH.size_new, AH.size_put] <;> omega)) x0 _ _ (Dat.ext h0 (by ((repeat' (first | exact Ext.refl _ | assumption | refine Ext.trans ?_ (Ext.new _ _) | refine Ext.put ?_ ?_ _ | refine Ext.trans ?_ (by assumption))) <;> (first | omega | (simp only [AH.size_new, AH.size_put] <;> omega))))) (by omega)).mono ?_
  rintro r B6 ⟨cc, H0y, rfl, qq, f0y, hE6⟩
  obtain ⟨t0k1y, t0k2y, G0k1y, G0k2y, rfl, hH0y, q0k1y, q0k2y⟩ := rep_Space.1 qq
  have v6 := hE6.size
  try simp only [AH.size_new, AH.size_put] at v6
  simp (maxSteps := 2000000) (disch := first | omega | (simp only [AH.size_new, AH.size_put] <;> omega) | fail) only [amR Tryd.prog ro X, amS, seval, reduceCtorEq, ty3, ty4, ty33, ty34, ty36, ty39, ty40, ty42, hE1.get, hE2.get, hE3.get, hE4.get, hE5.get]
  refine ⟨fun b hb => hE6.get b hb, ?_⟩
  try simp (maxSteps := 2000000) (disch := first | omega | (simp only [AH.size_new, AH.size_put] <;> omega) | fail) only [amR Tryd.prog ro X, amS, seval, reduceCtorEq, ty3, ty4, ty33, ty34, ty36, ty39, ty40, ty42, hE1.get, hE2.get, hE3.get, hE4.get, hE5.get, hE6.get]
  refine (Law.eq_Space _ (by first | omega | (simp only [AH.size_new, AH.size_put] <;> omega)) x0 x0 _ _ _ _ (rep_Space.2 ⟨t0k1x, t0k2x, _, _, rfl, rfl, q0k1x.ext (by ((repeat' (first | exact Ext.refl _ | assumption | refine Ext.trans ?_ (Ext.new _ _) | refine Ext.put ?_ ?_ _ | refine Ext.trans ?_ (by assumption))) <;> (first | omega | (simp only [AH.size_new, AH.size_put] <;> omega)))), q0k2x.ext (by ((repeat' (first | exact Ext.refl _ | assumption | refine Ext.trans ?_ (Ext.new _ _) | refine Ext.put ?_ ?_ _ | refine Ext.trans ?_ (by assumption))) <;> (first | omega | (simp only [AH.size_new, AH.size_put] <;> omega))))⟩) (rep_Space.2 ⟨t0k1y, t0k2y, _, _, rfl, rfl, q0k1y.ext (by ((repeat' (first | exact Ext.refl _ | assumption | refine Ext.trans ?_ (Ext.new _ _) | refine Ext.put ?_ ?_ _ | refine Ext.trans ?_ (by assumption))) <;> (first | omega | (simp only [AH.size_new, AH.size_put] <;> omega)))), q0k2y.ext (by ((repeat' (first | exact Ext.refl _ | assumption | refine Ext.trans ?_ (Ext.new _ _) | refine Ext.put ?_ ?_ _ | refine Ext.trans ?_ (by assumption))) <;> (first | omega | (simp only [AH.size_new, AH.size_put] <;> omega))))⟩) (by omega)).mono ?_
  rintro r B7 ⟨rfl, hE7⟩
  have v7 := hE7.size
  try simp only [AH.size_new, AH.size_put] at v7
  simp (maxSteps := 2000000) (disch := first | omega | (simp only [AH.size_new, AH.size_put] <;> omega) | fail) only [amR Tryd.prog ro X, amS, seval, reduceCtorEq, ty3, ty4, ty33, ty34, ty36, ty39, ty40, ty42, hE1.get, hE2.get, hE3.get, hE4.get, hE5.get, hE6.get, hE7.get]
end Go.Proofs.YtcdnlghlbljopaaDoor.Amu.LCheckSpace
