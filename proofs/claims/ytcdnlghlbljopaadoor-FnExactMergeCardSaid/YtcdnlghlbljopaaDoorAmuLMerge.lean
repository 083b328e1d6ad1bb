/- The exact law on Merge, reckoned. -/
import Derived.Test.YtcdnlghlbljopaaDoorAmuMerge
import Derived.Test.YtcdnlghlbljopaaDoorAmuLawA
import Derived.Test.YtcdnlghlbljopaaDoorAmuLawB
namespace Go.Proofs.YtcdnlghlbljopaaDoor.Amu.LMerge
open Go Go.AM Go.Proofs
set_option linter.unusedVariables false
set_option linter.unusedSimpArgs false
set_option maxHeartbeats 4000000
theorem ty3 : tKind Tryd.prog 3 = some (.int .i64) ∧ tSize Tryd.prog 3 = some 1 ∧ tAgg Tryd.prog 3 = some false ∧ tZero Tryd.prog 3 = some (.int .i64 0) := ⟨by kernel_rfl, by kernel_rfl, by kernel_rfl, by kernel_rfl⟩
theorem ty4 : tKind Tryd.prog 4 = some (.bool) ∧ tSize Tryd.prog 4 = some 1 ∧ tAgg Tryd.prog 4 = some false ∧ tZero Tryd.prog 4 = some (.bool false) := ⟨by kernel_rfl, by kernel_rfl, by kernel_rfl, by kernel_rfl⟩
theorem ty9 : tKind Tryd.prog 9 = some (.str) ∧ tSize Tryd.prog 9 = some 1 ∧ tAgg Tryd.prog 9 = some false ∧ tZero Tryd.prog 9 = some (.string ByteArray.empty) := ⟨by kernel_rfl, by kernel_rfl, by kernel_rfl, by kernel_rfl⟩
theorem ty47 : tKind Tryd.prog 47 = some (.slice) ∧ tSize Tryd.prog 47 = some 1 ∧ tAgg Tryd.prog 47 = some false ∧ tZero Tryd.prog 47 = some (.slice none 0 0) ∧ tElem Tryd.prog 47 = some 9 ∧ tElemSize Tryd.prog 47 = some 1 ∧ tBytes Tryd.prog 47 = false := ⟨by kernel_rfl, by kernel_rfl, by kernel_rfl, by kernel_rfl, by kernel_rfl, by kernel_rfl, by kernel_rfl⟩
theorem ty48 : tKind Tryd.prog 48 = some (.slice) ∧ tSize Tryd.prog 48 = some 1 ∧ tAgg Tryd.prog 48 = some false ∧ tZero Tryd.prog 48 = some (.slice none 0 0) ∧ tElem Tryd.prog 48 = some 208 ∧ tElemSize Tryd.prog 48 = some 3 ∧ tBytes Tryd.prog 48 = false := ⟨by kernel_rfl, by kernel_rfl, by kernel_rfl, by kernel_rfl, by kernel_rfl, by kernel_rfl, by kernel_rfl⟩
theorem ty50 : tKind Tryd.prog 50 = some (.struct) ∧ tSize Tryd.prog 50 = some 3 ∧ tAgg Tryd.prog 50 = some true ∧ tZero Tryd.prog 50 = some (.agg #[.int .i64 0, .slice none 0 0, .slice none 0 0]) ∧ tField Tryd.prog 50 0 = some (0, 3) ∧ tField Tryd.prog 50 1 = some (1, 47) ∧ tField Tryd.prog 50 2 = some (2, 48) ∧ tPlaces Tryd.prog 50 = some [(0, 1), (1, 1), (2, 1)] := ⟨by kernel_rfl, by kernel_rfl, by kernel_rfl, by kernel_rfl, by kernel_rfl, by kernel_rfl, by kernel_rfl, by kernel_rfl⟩
theorem ty53 : tKind Tryd.prog 53 = some (.slice) ∧ tSize Tryd.prog 53 = some 1 ∧ tAgg Tryd.prog 53 = some false ∧ tZero Tryd.prog 53 = some (.slice none 0 0) ∧ tElem Tryd.prog 53 = some 69 ∧ tElemSize Tryd.prog 53 = some 3 ∧ tBytes Tryd.prog 53 = false := ⟨by kernel_rfl, by kernel_rfl, by kernel_rfl, by kernel_rfl, by kernel_rfl, by kernel_rfl, by kernel_rfl⟩
theorem ty55 : tKind Tryd.prog 55 = some (.struct) ∧ tSize Tryd.prog 55 = some 3 ∧ tAgg Tryd.prog 55 = some true ∧ tZero Tryd.prog 55 = some (.agg #[.int .i64 0, .slice none 0 0, .slice none 0 0]) ∧ tField Tryd.prog 55 0 = some (0, 3) ∧ tField Tryd.prog 55 1 = some (1, 47) ∧ tField Tryd.prog 55 2 = some (2, 53) ∧ tPlaces Tryd.prog 55 = some [(0, 1), (1, 1), (2, 1)] := ⟨by kernel_rfl, by kernel_rfl, by kernel_rfl, by kernel_rfl, by kernel_rfl, by kernel_rfl, by kernel_rfl, by kernel_rfl⟩
theorem ty88 : tKind Tryd.prog 88 = some (.struct) ∧ tSize Tryd.prog 88 = some 6 ∧ tAgg Tryd.prog 88 = some true ∧ tZero Tryd.prog 88 = some (.agg #[.int .i64 0, .int .i64 0, .slice none 0 0, .slice none 0 0, .string ByteArray.empty, .string ByteArray.empty]) ∧ tField Tryd.prog 88 0 = some (0, 3) ∧ tField Tryd.prog 88 1 = some (1, 55) ∧ tField Tryd.prog 88 2 = some (4, 9) ∧ tField Tryd.prog 88 3 = some (5, 9) ∧ tPlaces Tryd.prog 88 = some [(0, 1), (1, 3), (4, 1), (5, 1)] := ⟨by kernel_rfl, by kernel_rfl, by kernel_rfl, by kernel_rfl, by kernel_rfl, by kernel_rfl, by kernel_rfl, by kernel_rfl, by kernel_rfl⟩

variable {ro : Nat} {X : FuncId → List Value → AH → ARes → AH → Prop}
set_option maxRecDepth 10000
theorem law_a (A : AH) (hro : ro ≤ A.size) (hT : Tab 0 A) (x0 : TStore) (c0 : List Value) (F0 : List Nat) (h0 : Dat.rep A x0 c0 F0) (b0 : Mk.bd x0) (x1 : TStore) (c1 : List Value) (F1 : List Nat) (h1 : Dat.rep A x1 c1 F1) (b1 : Mk.bd x1) :
    ACalls Tryd.prog ro X 12 [.agg c0.toArray, .agg c1.toArray] A (fun r _ => r = .ret (.bool true)) := by
  refine ACalls.enterQ (rs := [.tmp 4]) Tryd.func12 rfl (by kernel_rfl) rfl ?_
  have hh0 := h0
  obtain ⟨w0k1, w0k2, _, _, rfl, _, _, _⟩ := rep_Store.1 hh0
  have hh1 := h1
  obtain ⟨w1k1, w1k2, _, _, rfl, _, _, _⟩ := rep_Store.1 hh1
  simp (maxSteps := 2000000) (disch := first | omega | (simp only [AH.size_new, AH.size_put] <;> omega) | fail) only [amR Tryd.prog ro X, amS, seval, reduceCtorEq, ty3, ty4, ty9, ty47, ty48, ty50, ty53, ty55, ty88]
  refine (Law.sz_Store _ (by first | omega | (simp only [AH.size_new, AH.size_put] <;> omega)) x0 _ _ (Dat.ext h0 (by ((repeat' (first | exact Ext.refl _ | assumption | refine Ext.trans ?_ (Ext.new _ _) | refine Ext.put ?_ ?_ _ | refine Ext.trans ?_ (by assumption))) <;> (first | omega | (simp only [AH.size_new, AH.size_put] <;> omega))))) b0 (1048576) (by omega)).mono ?_
  rintro r B1 ⟨rfl, hE1⟩
  have v1 := hE1.size
  try simp only [AH.size_new, AH.size_put] at v1
  by_cases z0 : 1048576 - (Mk.sz x0 : Nat) < (0 : Int)
  · rw [szR_neg z0]
    simp (maxSteps := 2000000) (disch := first | omega | (simp only [AH.size_new, AH.size_put] <;> omega) | fail) only [amR Tryd.prog ro X, amS, seval, reduceCtorEq, ty3, ty4, ty9, ty47, ty48, ty50, ty53, ty55, ty88, hE1.get]
  rw [szR_pos z0]
  simp (maxSteps := 2000000) (disch := first | omega | (simp only [AH.size_new, AH.size_put] <;> omega) | fail) only [amR Tryd.prog ro X, amS, seval, reduceCtorEq, ty3, ty4, ty9, ty47, ty48, ty50, ty53, ty55, ty88, hE1.get, z0]
  refine (Law.sz_Store _ (by first | omega | (simp only [AH.size_new, AH.size_put] <;> omega)) x1 _ _ (Dat.ext h1 (by ((repeat' (first | exact Ext.refl _ | assumption | refine Ext.trans ?_ (Ext.new _ _) | refine Ext.put ?_ ?_ _ | refine Ext.trans ?_ (by assumption))) <;> (first | omega | (simp only [AH.size_new, AH.size_put] <;> omega))))) b1 (1048576 - (Mk.sz x0 : Nat)) (by omega)).mono ?_
  rintro r B2 ⟨rfl, hE2⟩
  have v2 := hE2.size
  try simp only [AH.size_new, AH.size_put] at v2
  by_cases z1 : 1048576 - (Mk.sz x0 : Nat) - (Mk.sz x1 : Nat) < (0 : Int)
  · rw [szR_neg z1]
    simp (maxSteps := 2000000) (disch := first | omega | (simp only [AH.size_new, AH.size_put] <;> omega) | fail) only [amR Tryd.prog ro X, amS, seval, reduceCtorEq, ty3, ty4, ty9, ty47, ty48, ty50, ty53, ty55, ty88, hE1.get, hE2.get]
  rw [szR_pos z1]
  simp (maxSteps := 2000000) (disch := first | omega | (simp only [AH.size_new, AH.size_put] <;> omega) | fail) only [amR Tryd.prog ro X, amS, seval, reduceCtorEq, ty3, ty4, ty9, ty47, ty48, ty50, ty53, ty55, ty88, hE1.get, hE2.get, z1]
  have hq0 : Mk.sz x0 = 0 + (szL Mk.sz x0.2.1 + szL Mk.sz x0.2.2) := rfl
  have hq1 : Mk.sz x1 = 0 + (szL Mk.sz x1.2.1 + szL Mk.sz x1.2.2) := rfl
  have hpp : ∀ r ∈ x0.2.2, r.1.length < 4294967296 := fun r hr => by have := mem_szR hr; omega
  have hqq : ∀ r ∈ x1.2.2, r.1.length < 4294967296 := fun r hr => by have := mem_szR hr; omega
  obtain ⟨y, hy⟩ : ∃ y, y = mergeR x0 x1 := ⟨_, rfl⟩
  have ysz : Mk.sz y < 1073741824 := by
    rw [hy]
    have := mergeR_sz x0 x1
    omega
  have ye1 : Mk.sz y = Mk.sz y.1 + Mk.sz y.2 := rfl
  have ye2 : Mk.sz y.2 = Mk.sz y.2.1 + Mk.sz y.2.2 := rfl
  have ye3 : Mk.sz y.2.1 = Mk.sz y.2.1.1 + Mk.sz y.2.1.2 := rfl
  have ye4 : Mk.sz y.2.1.2 = Mk.sz y.2.1.2.1 + Mk.sz y.2.1.2.2 := rfl
  have ye5 : Mk.sz y.2.2 = Mk.sz y.2.2.1 + Mk.sz y.2.2.2 := rfl
  have yl1 : Mk.sz y.2.1.2.1 = szL Mk.sz y.2.1.2.1 := rfl
  have yn1 := nmL_Str y.2.1.2.1
  have yl2 : Mk.sz y.2.1.2.2 = szL Mk.sz y.2.1.2.2 := rfl
  have yn2 := nmL_Record y.2.1.2.2
  have m0e1 : Mk.sz x0 = Mk.sz x0.1 + Mk.sz x0.2 := rfl
  have m0e2 : Mk.sz x0.2 = Mk.sz x0.2.1 + Mk.sz x0.2.2 := rfl
  have m0l1 : Mk.sz x0.2.1 = szL Mk.sz x0.2.1 := rfl
  have m0n1 := nmL_Str x0.2.1
  have m0l2 : Mk.sz x0.2.2 = szL Mk.sz x0.2.2 := rfl
  have m0n2 := nmL_Record x0.2.2
  have m1e1 : Mk.sz x1 = Mk.sz x1.1 + Mk.sz x1.2 := rfl
  have m1e2 : Mk.sz x1.2 = Mk.sz x1.2.1 + Mk.sz x1.2.2 := rfl
  have m1l1 : Mk.sz x1.2.1 = szL Mk.sz x1.2.1 := rfl
  have m1n1 := nmL_Str x1.2.1
  have m1l2 : Mk.sz x1.2.2 = szL Mk.sz x1.2.2 := rfl
  have m1n2 := nmL_Record x1.2.2
  refine Wp.runG [1] (by kernel_rfl) (.inr (by intro v e A h; simp only [amK, amQ, thenQ, blockQ, endQ, reduceCtorEq, false_and, exists_false] at h)) ?_
  simp (maxSteps := 2000000) (disch := first | omega | (simp only [AH.size_new, AH.size_put] <;> omega) | fail) only [amR Tryd.prog ro X, amS, seval, reduceCtorEq, ty3, ty4, ty9, ty47, ty48, ty50, ty53, ty55, ty88, hE1.get, hE2.get]
  refine (Law.to_Store _ (by first | omega | (simp only [AH.size_new, AH.size_put] <;> omega)) x0 _ _ (Dat.ext h0 (by ((repeat' (first | exact Ext.refl _ | assumption | refine Ext.trans ?_ (Ext.new _ _) | refine Ext.put ?_ ?_ _ | refine Ext.trans ?_ (by assumption))) <;> (first | omega | (simp only [AH.size_new, AH.size_put] <;> omega))))) (by omega)).mono ?_
  rintro r B3 ⟨cc, H0w, rfl, qq, f0w, hE3⟩
  obtain ⟨t0k1w, t0k2w, G0k1w, G0k2w, rfl, hH0w, q0k1w, q0k2w⟩ := rep_Store.1 qq
  have v3 := hE3.size
  try simp only [AH.size_new, AH.size_put] at v3
  simp (maxSteps := 2000000) (disch := first | omega | (simp only [AH.size_new, AH.size_put] <;> omega) | fail) only [amR Tryd.prog ro X, amS, seval, reduceCtorEq, ty3, ty4, ty9, ty47, ty48, ty50, ty53, ty55, ty88, hE1.get, hE2.get]
  refine ⟨fun b hb => hE3.get b hb, ?_⟩
  try simp (maxSteps := 2000000) (disch := first | omega | (simp only [AH.size_new, AH.size_put] <;> omega) | fail) only [amR Tryd.prog ro X, amS, seval, reduceCtorEq, ty3, ty4, ty9, ty47, ty48, ty50, ty53, ty55, ty88, hE1.get, hE2.get, hE3.get]
  refine (Law.to_Store _ (by first | omega | (simp only [AH.size_new, AH.size_put] <;> omega)) x1 _ _ (Dat.ext h1 (by ((repeat' (first | exact Ext.refl _ | assumption | refine Ext.trans ?_ (Ext.new _ _) | refine Ext.put ?_ ?_ _ | refine Ext.trans ?_ (by assumption))) <;> (first | omega | (simp only [AH.size_new, AH.size_put] <;> omega))))) (by omega)).mono ?_
  rintro r B4 ⟨cc, H1w, rfl, qq, f1w, hE4⟩
  obtain ⟨t1k1w, t1k2w, G1k1w, G1k2w, rfl, hH1w, q1k1w, q1k2w⟩ := rep_Store.1 qq
  have v4 := hE4.size
  try simp only [AH.size_new, AH.size_put] at v4
  simp (maxSteps := 2000000) (disch := first | omega | (simp only [AH.size_new, AH.size_put] <;> omega) | fail) only [amR Tryd.prog ro X, amS, seval, reduceCtorEq, ty3, ty4, ty9, ty47, ty48, ty50, ty53, ty55, ty88, hE1.get, hE2.get, hE3.get, hE4.get]
  refine (Merge.spec_a _ (by first | omega | (simp only [AH.size_new, AH.size_put] <;> omega)) t0k1w t0k2w t1k1w t1k2w x0 x1 _ _ _ _ (q0k1w.ext (by ((repeat' (first | exact Ext.refl _ | assumption | refine Ext.trans ?_ (Ext.new _ _) | refine Ext.put ?_ ?_ _ | refine Ext.trans ?_ (by assumption))) <;> (first | omega | (simp only [AH.size_new, AH.size_put] <;> omega))))) (q0k2w.ext (by ((repeat' (first | exact Ext.refl _ | assumption | refine Ext.trans ?_ (Ext.new _ _) | refine Ext.put ?_ ?_ _ | refine Ext.trans ?_ (by assumption))) <;> (first | omega | (simp only [AH.size_new, AH.size_put] <;> omega))))) (q1k1w.ext (by ((repeat' (first | exact Ext.refl _ | assumption | refine Ext.trans ?_ (Ext.new _ _) | refine Ext.put ?_ ?_ _ | refine Ext.trans ?_ (by assumption))) <;> (first | omega | (simp only [AH.size_new, AH.size_put] <;> omega))))) (q1k2w.ext (by ((repeat' (first | exact Ext.refl _ | assumption | refine Ext.trans ?_ (Ext.new _ _) | refine Ext.put ?_ ?_ _ | refine Ext.trans ?_ (by assumption))) <;> (first | omega | (simp only [AH.size_new, AH.size_put] <;> omega))))) hpp hqq).mono ?_
  rintro r B5 ⟨cc, Fw, rfl, qq, hE5⟩
  rw [← hy] at qq
  have bdw := Dat.bound qq
  obtain ⟨rwk1, rwk2, Rwk1, Rwk2, rfl, hRw, pwk1, pwk2, owk1, owk2⟩ := rep_Kept.1 qq
  have v5 := hE5.size
  try simp only [AH.size_new, AH.size_put] at v5
  simp (maxSteps := 2000000) (disch := first | omega | (simp only [AH.size_new, AH.size_put] <;> omega) | fail) only [amR Tryd.prog ro X, amS, seval, reduceCtorEq, ty3, ty4, ty9, ty47, ty48, ty50, ty53, ty55, ty88, hE1.get, hE2.get, hE3.get, hE4.get, hE5.get]
  refine (Law.to_Store _ (by first | omega | (simp only [AH.size_new, AH.size_put] <;> omega)) x0 _ _ (Dat.ext h0 (by ((repeat' (first | exact Ext.refl _ | assumption | refine Ext.trans ?_ (Ext.new _ _) | refine Ext.put ?_ ?_ _ | refine Ext.trans ?_ (by assumption))) <;> (first | omega | (simp only [AH.size_new, AH.size_put] <;> omega))))) (by omega)).mono ?_
  rintro r B6 ⟨cc, H0x, rfl, qq, f0x, hE6⟩
  obtain ⟨t0k1x, t0k2x, G0k1x, G0k2x, rfl, hH0x, q0k1x, q0k2x⟩ := rep_Store.1 qq
  have v6 := hE6.size
  try simp only [AH.size_new, AH.size_put] at v6
  simp (maxSteps := 2000000) (disch := first | omega | (simp only [AH.size_new, AH.size_put] <;> omega) | fail) only [amR Tryd.prog ro X, amS, seval, reduceCtorEq, ty3, ty4, ty9, ty47, ty48, ty50, ty53, ty55, ty88, hE1.get, hE2.get, hE3.get, hE4.get, hE5.get, hE6.get]
  refine (Law.to_Store _ (by first | omega | (simp only [AH.size_new, AH.size_put] <;> omega)) x1 _ _ (Dat.ext h1 (by ((repeat' (first | exact Ext.refl _ | assumption | refine Ext.trans ?_ (Ext.new _ _) | refine Ext.put ?_ ?_ _ | refine Ext.trans ?_ (by assumption))) <;> (first | omega | (simp only [AH.size_new, AH.size_put] <;> omega))))) (by omega)).mono ?_
  rintro r B7 ⟨cc, H1x, rfl, qq, f1x, hE7⟩
  obtain ⟨t1k1x, t1k2x, G1k1x, G1k2x, rfl, hH1x, q1k1x, q1k2x⟩ := rep_Store.1 qq
  have v7 := hE7.size
  try simp only [AH.size_new, AH.size_put] at v7
  simp (maxSteps := 2000000) (disch := first | omega | (simp only [AH.size_new, AH.size_put] <;> omega) | fail) only [amR Tryd.prog ro X, amS, seval, reduceCtorEq, ty3, ty4, ty9, ty47, ty48, ty50, ty53, ty55, ty88, hE1.get, hE2.get, hE3.get, hE4.get, hE5.get, hE6.get, hE7.get]
  refine (Merge.impl_a _ (by first | omega | (simp only [AH.size_new, AH.size_put] <;> omega)) (hT.ext (by ((repeat' (first | exact Ext.refl _ | assumption | refine Ext.trans ?_ (Ext.new _ _) | refine Ext.put ?_ ?_ _ | refine Ext.trans ?_ (by assumption))) <;> (first | omega | (simp only [AH.size_new, AH.size_put] <;> omega))))) t0k1x t0k2x t1k1x t1k2x x0 x1 _ _ _ _ (q0k1x.ext (by ((repeat' (first | exact Ext.refl _ | assumption | refine Ext.trans ?_ (Ext.new _ _) | refine Ext.put ?_ ?_ _ | refine Ext.trans ?_ (by assumption))) <;> (first | omega | (simp only [AH.size_new, AH.size_put] <;> omega))))) (q0k2x.ext (by ((repeat' (first | exact Ext.refl _ | assumption | refine Ext.trans ?_ (Ext.new _ _) | refine Ext.put ?_ ?_ _ | refine Ext.trans ?_ (by assumption))) <;> (first | omega | (simp only [AH.size_new, AH.size_put] <;> omega))))) (q1k1x.ext (by ((repeat' (first | exact Ext.refl _ | assumption | refine Ext.trans ?_ (Ext.new _ _) | refine Ext.put ?_ ?_ _ | refine Ext.trans ?_ (by assumption))) <;> (first | omega | (simp only [AH.size_new, AH.size_put] <;> omega))))) (q1k2x.ext (by ((repeat' (first | exact Ext.refl _ | assumption | refine Ext.trans ?_ (Ext.new _ _) | refine Ext.put ?_ ?_ _ | refine Ext.trans ?_ (by assumption))) <;> (first | omega | (simp only [AH.size_new, AH.size_put] <;> omega))))) hpp hqq).mono ?_
  rintro r B8 ⟨cc, Fg, rfl, qq, fg, hE8⟩
  rw [← hy] at qq
  obtain ⟨rgk1, rgk2, Rgk1, Rgk2, rfl, hRg, pgk1, pgk2, ogk1, ogk2⟩ := rep_Kept.1 qq
  have v8 := hE8.size
  try simp only [AH.size_new, AH.size_put] at v8
  simp (maxSteps := 2000000) (disch := first | omega | (simp only [AH.size_new, AH.size_put] <;> omega) | fail) only [amR Tryd.prog ro X, amS, seval, reduceCtorEq, ty3, ty4, ty9, ty47, ty48, ty50, ty53, ty55, ty88, hE1.get, hE2.get, hE3.get, hE4.get, hE5.get, hE6.get, hE7.get, hE8.get]
  refine (Law.eq_Kept _ (by first | omega | (simp only [AH.size_new, AH.size_put] <;> omega)) y y _ _ _ _ (rep_Kept.2 ⟨rgk1, rgk2, _, _, rfl, rfl, pgk1.ext (by ((repeat' (first | exact Ext.refl _ | assumption | refine Ext.trans ?_ (Ext.new _ _) | refine Ext.put ?_ ?_ _ | refine Ext.trans ?_ (by assumption))) <;> (first | omega | (simp only [AH.size_new, AH.size_put] <;> omega)))), pgk2.ext (by ((repeat' (first | exact Ext.refl _ | assumption | refine Ext.trans ?_ (Ext.new _ _) | refine Ext.put ?_ ?_ _ | refine Ext.trans ?_ (by assumption))) <;> (first | omega | (simp only [AH.size_new, AH.size_put] <;> omega)))), ogk1, ogk2⟩) (rep_Kept.2 ⟨rwk1, rwk2, _, _, rfl, rfl, pwk1.ext (by ((repeat' (first | exact Ext.refl _ | assumption | refine Ext.trans ?_ (Ext.new _ _) | refine Ext.put ?_ ?_ _ | refine Ext.trans ?_ (by assumption))) <;> (first | omega | (simp only [AH.size_new, AH.size_put] <;> omega)))), pwk2.ext (by ((repeat' (first | exact Ext.refl _ | assumption | refine Ext.trans ?_ (Ext.new _ _) | refine Ext.put ?_ ?_ _ | refine Ext.trans ?_ (by assumption))) <;> (first | omega | (simp only [AH.size_new, AH.size_put] <;> omega)))), owk1, owk2⟩) (by omega)).mono ?_
  rintro r B9 ⟨rfl, hE9⟩
  have v9 := hE9.size
  try simp only [AH.size_new, AH.size_put] at v9
  simp (maxSteps := 2000000) (disch := first | omega | (simp only [AH.size_new, AH.size_put] <;> omega) | fail) only [amR Tryd.prog ro X, amS, seval, reduceCtorEq, ty3, ty4, ty9, ty47, ty48, ty50, ty53, ty55, ty88, hE1.get, hE2.get, hE3.get, hE4.get, hE5.get, hE6.get, hE7.get, hE8.get, hE9.get]
  refine Wp.runG [2] (by kernel_rfl) (.inl (by kernel_rfl)) ?_
  simp (maxSteps := 2000000) (disch := first | omega | (simp only [AH.size_new, AH.size_put] <;> omega) | fail) only [amR Tryd.prog ro X, amS, seval, reduceCtorEq, ty3, ty4, ty9, ty47, ty48, ty50, ty53, ty55, ty88, hE1.get, hE2.get, hE3.get, hE4.get, hE5.get, hE6.get, hE7.get, hE8.get, hE9.get]
  refine (Law.to_Store _ (by first | omega | (simp only [AH.size_new, AH.size_put] <;> omega)) x0 _ _ (Dat.ext h0 (by ((repeat' (first | exact Ext.refl _ | assumption | refine Ext.trans ?_ (Ext.new _ _) | refine Ext.put ?_ ?_ _ | refine Ext.trans ?_ (by assumption))) <;> (first | omega | (simp only [AH.size_new, AH.size_put] <;> omega))))) (by omega)).mono ?_
  rintro r B10 ⟨cc, H0y, rfl, qq, f0y, hE10⟩
  obtain ⟨t0k1y, t0k2y, G0k1y, G0k2y, rfl, hH0y, q0k1y, q0k2y⟩ := rep_Store.1 qq
  have v10 := hE10.size
  try simp only [AH.size_new, AH.size_put] at v10
  simp (maxSteps := 2000000) (disch := first | omega | (simp only [AH.size_new, AH.size_put] <;> omega) | fail) only [amR Tryd.prog ro X, amS, seval, reduceCtorEq, ty3, ty4, ty9, ty47, ty48, ty50, ty53, ty55, ty88, hE1.get, hE2.get, hE3.get, hE4.get, hE5.get, hE6.get, hE7.get, hE8.get, hE9.get]
  refine ⟨fun b hb => hE10.get b hb, ?_⟩
  try simp (maxSteps := 2000000) (disch := first | omega | (simp only [AH.size_new, AH.size_put] <;> omega) | fail) only [amR Tryd.prog ro X, amS, seval, reduceCtorEq, ty3, ty4, ty9, ty47, ty48, ty50, ty53, ty55, ty88, hE1.get, hE2.get, hE3.get, hE4.get, hE5.get, hE6.get, hE7.get, hE8.get, hE9.get, hE10.get]
  refine (Law.eq_Store _ (by first | omega | (simp only [AH.size_new, AH.size_put] <;> omega)) x0 x0 _ _ _ _ (rep_Store.2 ⟨t0k1x, t0k2x, _, _, rfl, rfl, q0k1x.ext (by ((repeat' (first | exact Ext.refl _ | assumption | refine Ext.trans ?_ (Ext.new _ _) | refine Ext.put ?_ ?_ _ | refine Ext.trans ?_ (by assumption))) <;> (first | omega | (simp only [AH.size_new, AH.size_put] <;> omega)))), q0k2x.ext (by ((repeat' (first | exact Ext.refl _ | assumption | refine Ext.trans ?_ (Ext.new _ _) | refine Ext.put ?_ ?_ _ | refine Ext.trans ?_ (by assumption))) <;> (first | omega | (simp only [AH.size_new, AH.size_put] <;> omega))))⟩) (rep_Store.2 ⟨t0k1y, t0k2y, _, _, rfl, rfl, q0k1y.ext (by ((repeat' (first | exact Ext.refl _ | assumption | refine Ext.trans ?_ (Ext.new _ _) | refine Ext.put ?_ ?_ _ | refine Ext.trans ?_ (by assumption))) <;> (first | omega | (simp only [AH.size_new, AH.size_put] <;> omega)))), q0k2y.ext (by ((repeat' (first | exact Ext.refl _ | assumption | refine Ext.trans ?_ (Ext.new _ _) | refine Ext.put ?_ ?_ _ | refine Ext.trans ?_ (by assumption))) <;> (first | omega | (simp only [AH.size_new, AH.size_put] <;> omega))))⟩) (by omega)).mono ?_
  rintro r B11 ⟨rfl, hE11⟩
  have v11 := hE11.size
  try simp only [AH.size_new, AH.size_put] at v11
  simp (maxSteps := 2000000) (disch := first | omega | (simp only [AH.size_new, AH.size_put] <;> omega) | fail) only [amR Tryd.prog ro X, amS, seval, reduceCtorEq, ty3, ty4, ty9, ty47, ty48, ty50, ty53, ty55, ty88, hE1.get, hE2.get, hE3.get, hE4.get, hE5.get, hE6.get, hE7.get, hE8.get, hE9.get, hE10.get, hE11.get]
  refine Wp.runG [2] (by kernel_rfl) (.inl (by kernel_rfl)) ?_
  simp (maxSteps := 2000000) (disch := first | omega | (simp only [AH.size_new, AH.size_put] <;> omega) | fail) only [amR Tryd.prog ro X, amS, seval, reduceCtorEq, ty3, ty4, ty9, ty47, ty48, ty50, ty53, ty55, ty88, hE1.get, hE2.get, hE3.get, hE4.get, hE5.get, hE6.get, hE7.get, hE8.get, hE9.get, hE10.get, hE11.get]
  refine (Law.to_Store _ (by first | omega | (simp only [AH.size_new, AH.size_put] <;> omega)) x1 _ _ (Dat.ext h1 (by ((repeat' (first | exact Ext.refl _ | assumption | refine Ext.trans ?_ (Ext.new _ _) | refine Ext.put ?_ ?_ _ | refine Ext.trans ?_ (by assumption))) <;> (first | omega | (simp only [AH.size_new, AH.size_put] <;> omega))))) (by omega)).mono ?_
  rintro r B12 ⟨cc, H1y, rfl, qq, f1y, hE12⟩
  obtain ⟨t1k1y, t1k2y, G1k1y, G1k2y, rfl, hH1y, q1k1y, q1k2y⟩ := rep_Store.1 qq
  have v12 := hE12.size
  try simp only [AH.size_new, AH.size_put] at v12
  simp (maxSteps := 2000000) (disch := first | omega | (simp only [AH.size_new, AH.size_put] <;> omega) | fail) only [amR Tryd.prog ro X, amS, seval, reduceCtorEq, ty3, ty4, ty9, ty47, ty48, ty50, ty53, ty55, ty88, hE1.get, hE2.get, hE3.get, hE4.get, hE5.get, hE6.get, hE7.get, hE8.get, hE9.get, hE10.get, hE11.get]
  refine ⟨fun b hb => hE12.get b hb, ?_⟩
  try simp (maxSteps := 2000000) (disch := first | omega | (simp only [AH.size_new, AH.size_put] <;> omega) | fail) only [amR Tryd.prog ro X, amS, seval, reduceCtorEq, ty3, ty4, ty9, ty47, ty48, ty50, ty53, ty55, ty88, hE1.get, hE2.get, hE3.get, hE4.get, hE5.get, hE6.get, hE7.get, hE8.get, hE9.get, hE10.get, hE11.get, hE12.get]
  refine (Law.eq_Store _ (by first | omega | (simp only [AH.size_new, AH.size_put] <;> omega)) x1 x1 _ _ _ _ (rep_Store.2 ⟨t1k1x, t1k2x, _, _, rfl, rfl, q1k1x.ext (by ((repeat' (first | exact Ext.refl _ | assumption | refine Ext.trans ?_ (Ext.new _ _) | refine Ext.put ?_ ?_ _ | refine Ext.trans ?_ (by assumption))) <;> (first | omega | (simp only [AH.size_new, AH.size_put] <;> omega)))), q1k2x.ext (by ((repeat' (first | exact Ext.refl _ | assumption | refine Ext.trans ?_ (Ext.new _ _) | refine Ext.put ?_ ?_ _ | refine Ext.trans ?_ (by assumption))) <;> (first | omega | (simp only [AH.size_new, AH.size_put] <;> omega))))⟩) (rep_Store.2 ⟨t1k1y, t1k2y, _, _, rfl, rfl, q1k1y.ext (by ((repeat' (first | exact Ext.refl _ | assumption | refine Ext.trans ?_ (Ext.new _ _) | refine Ext.put ?_ ?_ _ | refine Ext.trans ?_ (by assumption))) <;> (first | omega | (simp only [AH.size_new, AH.size_put] <;> omega)))), q1k2y.ext (by ((repeat' (first | exact Ext.refl _ | assumption | refine Ext.trans ?_ (Ext.new _ _) | refine Ext.put ?_ ?_ _ | refine Ext.trans ?_ (by assumption))) <;> (first | omega | (simp only [AH.size_new, AH.size_put] <;> omega))))⟩) (by omega)).mono ?_
  rintro r B13 ⟨rfl, hE13⟩
  have v13 := hE13.size
  try simp only [AH.size_new, AH.size_put] at v13
  simp (maxSteps := 2000000) (disch := first | omega | (simp only [AH.size_new, AH.size_put] <;> omega) | fail) only [amR Tryd.prog ro X, amS, seval, reduceCtorEq, ty3, ty4, ty9, ty47, ty48, ty50, ty53, ty55, ty88, hE1.get, hE2.get, hE3.get, hE4.get, hE5.get, hE6.get, hE7.get, hE8.get, hE9.get, hE10.get, hE11.get, hE12.get, hE13.get]
  refine (Law.mk_Store _ (by first | omega | (simp only [AH.size_new, AH.size_put] <;> omega)) _ t0k1x _ _ t0k2x _ _ (1) (q0k1x.ext (by ((repeat' (first | exact Ext.refl _ | assumption | refine Ext.trans ?_ (Ext.new _ _) | refine Ext.put ?_ ?_ _ | refine Ext.trans ?_ (by assumption))) <;> (first | omega | (simp only [AH.size_new, AH.size_put] <;> omega))))) (fun b hb => by have := f0x.lo b (by rw [hH0x]; simp [hb]); first | omega | (simp only [AH.size_new, AH.size_put] at this ⊢; omega) | (simp only [AH.size_new, AH.size_put] at this; omega)) (q0k2x.ext (by ((repeat' (first | exact Ext.refl _ | assumption | refine Ext.trans ?_ (Ext.new _ _) | refine Ext.put ?_ ?_ _ | refine Ext.trans ?_ (by assumption))) <;> (first | omega | (simp only [AH.size_new, AH.size_put] <;> omega))))) (fun b hb => by have := f0x.lo b (by rw [hH0x]; simp [hb]); first | omega | (simp only [AH.size_new, AH.size_put] at this ⊢; omega) | (simp only [AH.size_new, AH.size_put] at this; omega)) (by rw [← hH0x]; exact f0x.nodup) ⟨by omega, by omega⟩).mono ?_
  rintro r B14 ⟨rfl, a14k1, a14k2, hX14⟩
  have v14 := hX14.size
  try simp only [AH.size_new, AH.size_put] at v14
  have P14 := (fun b hb => f0x.both b (by rw [hH0x]; exact hb))
  have hK14 := hX14.out P14
  have EA14 : Ext A B14 := hX14.base P14 (by ((repeat' (first | exact Ext.refl _ | assumption | refine Ext.trans ?_ (Ext.new _ _) | refine Ext.put ?_ ?_ _ | refine Ext.trans ?_ (by assumption))) <;> (first | omega | (simp only [AH.size_new, AH.size_put] <;> omega)))) (by first | omega | (simp only [AH.size_new, AH.size_put] <;> omega))
  have EW14 : Ext B5 B14 := hX14.base P14 (by ((repeat' (first | exact Ext.refl _ | assumption | refine Ext.trans ?_ (Ext.new _ _) | refine Ext.put ?_ ?_ _ | refine Ext.trans ?_ (by assumption))) <;> (first | omega | (simp only [AH.size_new, AH.size_put] <;> omega)))) (by first | omega | (simp only [AH.size_new, AH.size_put] <;> omega))
  have q1k1xzm14 := (q1k1x.ext (by ((repeat' (first | exact Ext.refl _ | assumption | refine Ext.trans ?_ (Ext.new _ _) | refine Ext.put ?_ ?_ _ | refine Ext.trans ?_ (by assumption))) <;> (first | omega | (simp only [AH.size_new, AH.size_put] <;> omega))))).out hX14 P14 (fun b hb => .inr (by have := f1x.lo b (by rw [hH1x]; simp [hb]); first | omega | (simp only [AH.size_new, AH.size_put] at this ⊢; omega) | (simp only [AH.size_new, AH.size_put] at this; omega)))
  have q1k2xzm14 := (q1k2x.ext (by ((repeat' (first | exact Ext.refl _ | assumption | refine Ext.trans ?_ (Ext.new _ _) | refine Ext.put ?_ ?_ _ | refine Ext.trans ?_ (by assumption))) <;> (first | omega | (simp only [AH.size_new, AH.size_put] <;> omega))))).out hX14 P14 (fun b hb => .inr (by have := f1x.lo b (by rw [hH1x]; simp [hb]); first | omega | (simp only [AH.size_new, AH.size_put] at this ⊢; omega) | (simp only [AH.size_new, AH.size_put] at this; omega)))
  have pgk1zm14 := (pgk1.ext (by ((repeat' (first | exact Ext.refl _ | assumption | refine Ext.trans ?_ (Ext.new _ _) | refine Ext.put ?_ ?_ _ | refine Ext.trans ?_ (by assumption))) <;> (first | omega | (simp only [AH.size_new, AH.size_put] <;> omega))))).out hX14 P14 (fun b hb => .inr (by have := fg.lo b (by rw [hRg]; simp [hb]); first | omega | (simp only [AH.size_new, AH.size_put] at this ⊢; omega) | (simp only [AH.size_new, AH.size_put] at this; omega)))
  have pgk2zm14 := (pgk2.ext (by ((repeat' (first | exact Ext.refl _ | assumption | refine Ext.trans ?_ (Ext.new _ _) | refine Ext.put ?_ ?_ _ | refine Ext.trans ?_ (by assumption))) <;> (first | omega | (simp only [AH.size_new, AH.size_put] <;> omega))))).out hX14 P14 (fun b hb => .inr (by have := fg.lo b (by rw [hRg]; simp [hb]); first | omega | (simp only [AH.size_new, AH.size_put] at this ⊢; omega) | (simp only [AH.size_new, AH.size_put] at this; omega)))
  simp (maxSteps := 2000000) (disch := first | omega | (simp only [AH.size_new, AH.size_put] <;> omega) | fail) only [amR Tryd.prog ro X, amS, seval, reduceCtorEq, ty3, ty4, ty9, ty47, ty48, ty50, ty53, ty55, ty88, hE1.get, hE2.get, hE3.get, hE4.get, hE5.get, hE6.get, hE7.get, hE8.get, hE9.get, hE10.get, hE11.get, hE12.get, hE13.get, hK14]
  refine (Law.mk_Store _ (by first | omega | (simp only [AH.size_new, AH.size_put] <;> omega)) _ t1k1x _ _ t1k2x _ _ (1 + (nmL x0.2.1 : Nat) + (nmL x0.2.2 : Nat)) (q1k1xzm14.ext (by ((repeat' (first | exact Ext.refl _ | assumption | refine Ext.trans ?_ (Ext.new _ _) | refine Ext.put ?_ ?_ _ | refine Ext.trans ?_ (by assumption))) <;> (first | omega | (simp only [AH.size_new, AH.size_put] <;> omega))))) (fun b hb => by have := f1x.lo b (by rw [hH1x]; simp [hb]); first | omega | (simp only [AH.size_new, AH.size_put] at this ⊢; omega) | (simp only [AH.size_new, AH.size_put] at this; omega)) (q1k2xzm14.ext (by ((repeat' (first | exact Ext.refl _ | assumption | refine Ext.trans ?_ (Ext.new _ _) | refine Ext.put ?_ ?_ _ | refine Ext.trans ?_ (by assumption))) <;> (first | omega | (simp only [AH.size_new, AH.size_put] <;> omega))))) (fun b hb => by have := f1x.lo b (by rw [hH1x]; simp [hb]); first | omega | (simp only [AH.size_new, AH.size_put] at this ⊢; omega) | (simp only [AH.size_new, AH.size_put] at this; omega)) (by rw [← hH1x]; exact f1x.nodup) ⟨by omega, by omega⟩).mono ?_
  rintro r B15 ⟨rfl, a15k1, a15k2, hX15⟩
  have v15 := hX15.size
  try simp only [AH.size_new, AH.size_put] at v15
  have P15 := (fun b hb => f1x.both b (by rw [hH1x]; exact hb))
  have hK15 := hX15.out P15
  have EA15 : Ext A B15 := hX15.base P15 (by ((repeat' (first | exact Ext.refl _ | assumption | refine Ext.trans ?_ (Ext.new _ _) | refine Ext.put ?_ ?_ _ | refine Ext.trans ?_ (by assumption))) <;> (first | omega | (simp only [AH.size_new, AH.size_put] <;> omega)))) (by first | omega | (simp only [AH.size_new, AH.size_put] <;> omega))
  have EW15 : Ext B5 B15 := hX15.base P15 (by ((repeat' (first | exact Ext.refl _ | assumption | refine Ext.trans ?_ (Ext.new _ _) | refine Ext.put ?_ ?_ _ | refine Ext.trans ?_ (by assumption))) <;> (first | omega | (simp only [AH.size_new, AH.size_put] <;> omega)))) (by first | omega | (simp only [AH.size_new, AH.size_put] <;> omega))
  have pgk1zm15 := (pgk1zm14.ext (by ((repeat' (first | exact Ext.refl _ | assumption | refine Ext.trans ?_ (Ext.new _ _) | refine Ext.put ?_ ?_ _ | refine Ext.trans ?_ (by assumption))) <;> (first | omega | (simp only [AH.size_new, AH.size_put] <;> omega))))).out hX15 P15 (fun b hb => .inr (by have := fg.lo b (by rw [hRg]; simp [hb]); first | omega | (simp only [AH.size_new, AH.size_put] at this ⊢; omega) | (simp only [AH.size_new, AH.size_put] at this; omega)))
  have pgk2zm15 := (pgk2zm14.ext (by ((repeat' (first | exact Ext.refl _ | assumption | refine Ext.trans ?_ (Ext.new _ _) | refine Ext.put ?_ ?_ _ | refine Ext.trans ?_ (by assumption))) <;> (first | omega | (simp only [AH.size_new, AH.size_put] <;> omega))))).out hX15 P15 (fun b hb => .inr (by have := fg.lo b (by rw [hRg]; simp [hb]); first | omega | (simp only [AH.size_new, AH.size_put] at this ⊢; omega) | (simp only [AH.size_new, AH.size_put] at this; omega)))
  have kn : ¬ (1 + (nmL x0.2.1 : Nat) + (nmL x0.2.2 : Nat) + (nmL x1.2.1 : Nat) + (nmL x1.2.2 : Nat) : Int) < 0 := by omega
  simp (maxSteps := 2000000) (disch := first | omega | (simp only [AH.size_new, AH.size_put] <;> omega) | fail) only [amR Tryd.prog ro X, amS, seval, reduceCtorEq, ty3, ty4, ty9, ty47, ty48, ty50, ty53, ty55, ty88, hE1.get, hE2.get, hE3.get, hE4.get, hE5.get, hE6.get, hE7.get, hE8.get, hE9.get, hE10.get, hE11.get, hE12.get, hE13.get, hK14, hK15, kn]
  refine (Law.eq_Kept _ (by first | omega | (simp only [AH.size_new, AH.size_put] <;> omega)) y y _ _ _ _ (rep_Kept.2 ⟨rgk1, rgk2, _, _, rfl, rfl, pgk1zm15.ext (by ((repeat' (first | exact Ext.refl _ | assumption | refine Ext.trans ?_ (Ext.new _ _) | refine Ext.put ?_ ?_ _ | refine Ext.trans ?_ (by assumption))) <;> (first | omega | (simp only [AH.size_new, AH.size_put] <;> omega)))), pgk2zm15.ext (by ((repeat' (first | exact Ext.refl _ | assumption | refine Ext.trans ?_ (Ext.new _ _) | refine Ext.put ?_ ?_ _ | refine Ext.trans ?_ (by assumption))) <;> (first | omega | (simp only [AH.size_new, AH.size_put] <;> omega)))), ogk1, ogk2⟩) (rep_Kept.2 ⟨rwk1, rwk2, _, _, rfl, rfl, pwk1.ext (by ((repeat' (first | exact Ext.refl _ | assumption | refine Ext.trans ?_ (Ext.new _ _) | refine Ext.put ?_ ?_ _ | refine Ext.trans ?_ (by assumption))) <;> (first | omega | (simp only [AH.size_new, AH.size_put] <;> omega)))), pwk2.ext (by ((repeat' (first | exact Ext.refl _ | assumption | refine Ext.trans ?_ (Ext.new _ _) | refine Ext.put ?_ ?_ _ | refine Ext.trans ?_ (by assumption))) <;> (first | omega | (simp only [AH.size_new, AH.size_put] <;> omega)))), owk1, owk2⟩) (by omega)).mono ?_
  rintro r B16 ⟨rfl, hE16⟩
  have v16 := hE16.size
  try simp only [AH.size_new, AH.size_put] at v16
  simp (maxSteps := 2000000) (disch := first | omega | (simp only [AH.size_new, AH.size_put] <;> omega) | fail) only [amR Tryd.prog ro X, amS, seval, reduceCtorEq, ty3, ty4, ty9, ty47, ty48, ty50, ty53, ty55, ty88, hE1.get, hE2.get, hE3.get, hE4.get, hE5.get, hE6.get, hE7.get, hE8.get, hE9.get, hE10.get, hE11.get, hE12.get, hE13.get, hK14, hK15, kn, hE16.get]
  refine (Law.mk_Kept _ (by first | omega | (simp only [AH.size_new, AH.size_put] <;> omega)) _ _ rgk1 _ _ rgk2 _ _ _ _ (1) (pgk1zm15.ext (by ((repeat' (first | exact Ext.refl _ | assumption | refine Ext.trans ?_ (Ext.new _ _) | refine Ext.put ?_ ?_ _ | refine Ext.trans ?_ (by assumption))) <;> (first | omega | (simp only [AH.size_new, AH.size_put] <;> omega))))) (fun b hb => by have := fg.lo b (by rw [hRg]; simp [hb]); first | omega | (simp only [AH.size_new, AH.size_put] at this ⊢; omega) | (simp only [AH.size_new, AH.size_put] at this; omega)) (pgk2zm15.ext (by ((repeat' (first | exact Ext.refl _ | assumption | refine Ext.trans ?_ (Ext.new _ _) | refine Ext.put ?_ ?_ _ | refine Ext.trans ?_ (by assumption))) <;> (first | omega | (simp only [AH.size_new, AH.size_put] <;> omega))))) (fun b hb => by have := fg.lo b (by rw [hRg]; simp [hb]); first | omega | (simp only [AH.size_new, AH.size_put] at this ⊢; omega) | (simp only [AH.size_new, AH.size_put] at this; omega)) (by rw [← hRg]; exact fg.nodup) ⟨by omega, by omega⟩).mono ?_
  rintro r B17 ⟨rfl, a17k1, a17k2, hX17⟩
  have v17 := hX17.size
  try simp only [AH.size_new, AH.size_put] at v17
  have P17 := (fun b hb => fg.both b (by rw [hRg]; exact hb))
  have hK17 := hX17.out P17
  have EA17 : Ext A B17 := hX17.base P17 (by ((repeat' (first | exact Ext.refl _ | assumption | refine Ext.trans ?_ (Ext.new _ _) | refine Ext.put ?_ ?_ _ | refine Ext.trans ?_ (by assumption))) <;> (first | omega | (simp only [AH.size_new, AH.size_put] <;> omega)))) (by first | omega | (simp only [AH.size_new, AH.size_put] <;> omega))
  have EW17 : Ext B5 B17 := hX17.base P17 (by ((repeat' (first | exact Ext.refl _ | assumption | refine Ext.trans ?_ (Ext.new _ _) | refine Ext.put ?_ ?_ _ | refine Ext.trans ?_ (by assumption))) <;> (first | omega | (simp only [AH.size_new, AH.size_put] <;> omega)))) (by first | omega | (simp only [AH.size_new, AH.size_put] <;> omega))
  have kr : ¬ (1 + (nmL y.2.1.2.1 : Nat) + (nmL y.2.1.2.2 : Nat) : Int) < 0 := by omega
  simp (maxSteps := 2000000) (disch := first | omega | (simp only [AH.size_new, AH.size_put] <;> omega) | fail) only [amR Tryd.prog ro X, amS, seval, reduceCtorEq, ty3, ty4, ty9, ty47, ty48, ty50, ty53, ty55, ty88, hE1.get, hE2.get, hE3.get, hE4.get, hE5.get, hE6.get, hE7.get, hE8.get, hE9.get, hE10.get, hE11.get, hE12.get, hE13.get, hK14, hK15, kn, hE16.get, hK17, kr]
  refine (Law.hd_Kept _ (by first | omega | (simp only [AH.size_new, AH.size_put] <;> omega)) _ _ rgk1 _ _ rgk2 _ _ _ _ 1 (a17k1.ext (by ((repeat' (first | exact Ext.refl _ | assumption | refine Ext.trans ?_ (Ext.new _ _) | refine Ext.put ?_ ?_ _ | refine Ext.trans ?_ (by assumption))) <;> (first | omega | (simp only [AH.size_new, AH.size_put] <;> omega))))) (a17k2.ext (by ((repeat' (first | exact Ext.refl _ | assumption | refine Ext.trans ?_ (Ext.new _ _) | refine Ext.put ?_ ?_ _ | refine Ext.trans ?_ (by assumption))) <;> (first | omega | (simp only [AH.size_new, AH.size_put] <;> omega))))) ⟨by omega, by omega⟩).mono ?_
  rintro r B18 ⟨rfl, hE18⟩
  have v18 := hE18.size
  try simp only [AH.size_new, AH.size_put] at v18
  simp (maxSteps := 2000000) (disch := first | omega | (simp only [AH.size_new, AH.size_put] <;> omega) | fail) only [amR Tryd.prog ro X, amS, seval, reduceCtorEq, ty3, ty4, ty9, ty47, ty48, ty50, ty53, ty55, ty88, hE1.get, hE2.get, hE3.get, hE4.get, hE5.get, hE6.get, hE7.get, hE8.get, hE9.get, hE10.get, hE11.get, hE12.get, hE13.get, hK14, hK15, kn, hE16.get, hK17, kr, hE18.get]
  refine Wp.runG [1] (by kernel_rfl) (.inr (by intro v e A h; simp only [amK, amQ, thenQ, blockQ, endQ, reduceCtorEq, false_and, exists_false] at h)) ?_
  simp (maxSteps := 2000000) (disch := first | omega | (simp only [AH.size_new, AH.size_put] <;> omega) | fail) only [amR Tryd.prog ro X, amS, seval, reduceCtorEq, ty3, ty4, ty9, ty47, ty48, ty50, ty53, ty55, ty88, hE1.get, hE2.get, hE3.get, hE4.get, hE5.get, hE6.get, hE7.get, hE8.get, hE9.get, hE10.get, hE11.get, hE12.get, hE13.get, hK14, hK15, kn, hE16.get, hK17, kr, hE18.get]
  refine (Law.to_Store _ (by first | omega | (simp only [AH.size_new, AH.size_put] <;> omega)) x0 _ _ (Dat.ext h0 (by ((repeat' (first | exact Ext.refl _ | assumption | refine Ext.trans ?_ (Ext.new _ _) | refine Ext.put ?_ ?_ _ | refine Ext.trans ?_ (by assumption))) <;> (first | omega | (simp only [AH.size_new, AH.size_put] <;> omega))))) (by omega)).mono ?_
  rintro r B19 ⟨cc, H0z, rfl, qq, f0z, hE19⟩
  obtain ⟨t0k1z, t0k2z, G0k1z, G0k2z, rfl, hH0z, q0k1z, q0k2z⟩ := rep_Store.1 qq
  have v19 := hE19.size
  try simp only [AH.size_new, AH.size_put] at v19
  simp (maxSteps := 2000000) (disch := first | omega | (simp only [AH.size_new, AH.size_put] <;> omega) | fail) only [amR Tryd.prog ro X, amS, seval, reduceCtorEq, ty3, ty4, ty9, ty47, ty48, ty50, ty53, ty55, ty88, hE1.get, hE2.get, hE3.get, hE4.get, hE5.get, hE6.get, hE7.get, hE8.get, hE9.get, hE10.get, hE11.get, hE12.get, hE13.get, hK14, hK15, kn, hE16.get, hK17, kr, hE18.get]
  refine ⟨fun b hb => hE19.get b hb, ?_⟩
  try simp (maxSteps := 2000000) (disch := first | omega | (simp only [AH.size_new, AH.size_put] <;> omega) | fail) only [amR Tryd.prog ro X, amS, seval, reduceCtorEq, ty3, ty4, ty9, ty47, ty48, ty50, ty53, ty55, ty88, hE1.get, hE2.get, hE3.get, hE4.get, hE5.get, hE6.get, hE7.get, hE8.get, hE9.get, hE10.get, hE11.get, hE12.get, hE13.get, hK14, hK15, kn, hE16.get, hK17, kr, hE18.get, hE19.get]
  refine (Law.to_Store _ (by first | omega | (simp only [AH.size_new, AH.size_put] <;> omega)) x1 _ _ (Dat.ext h1 (by ((repeat' (first | exact Ext.refl _ | assumption | refine Ext.trans ?_ (Ext.new _ _) | refine Ext.put ?_ ?_ _ | refine Ext.trans ?_ (by assumption))) <;> (first | omega | (simp only [AH.size_new, AH.size_put] <;> omega))))) (by omega)).mono ?_
  rintro r B20 ⟨cc, H1z, rfl, qq, f1z, hE20⟩
  obtain ⟨t1k1z, t1k2z, G1k1z, G1k2z, rfl, hH1z, q1k1z, q1k2z⟩ := rep_Store.1 qq
  have v20 := hE20.size
  try simp only [AH.size_new, AH.size_put] at v20
  simp (maxSteps := 2000000) (disch := first | omega | (simp only [AH.size_new, AH.size_put] <;> omega) | fail) only [amR Tryd.prog ro X, amS, seval, reduceCtorEq, ty3, ty4, ty9, ty47, ty48, ty50, ty53, ty55, ty88, hE1.get, hE2.get, hE3.get, hE4.get, hE5.get, hE6.get, hE7.get, hE8.get, hE9.get, hE10.get, hE11.get, hE12.get, hE13.get, hK14, hK15, kn, hE16.get, hK17, kr, hE18.get, hE19.get, hE20.get]
  refine (Merge.impl_a _ (by first | omega | (simp only [AH.size_new, AH.size_put] <;> omega)) (hT.ext (by ((repeat' (first | exact Ext.refl _ | assumption | refine Ext.trans ?_ (Ext.new _ _) | refine Ext.put ?_ ?_ _ | refine Ext.trans ?_ (by assumption))) <;> (first | omega | (simp only [AH.size_new, AH.size_put] <;> omega))))) t0k1z t0k2z t1k1z t1k2z x0 x1 _ _ _ _ (q0k1z.ext (by ((repeat' (first | exact Ext.refl _ | assumption | refine Ext.trans ?_ (Ext.new _ _) | refine Ext.put ?_ ?_ _ | refine Ext.trans ?_ (by assumption))) <;> (first | omega | (simp only [AH.size_new, AH.size_put] <;> omega))))) (q0k2z.ext (by ((repeat' (first | exact Ext.refl _ | assumption | refine Ext.trans ?_ (Ext.new _ _) | refine Ext.put ?_ ?_ _ | refine Ext.trans ?_ (by assumption))) <;> (first | omega | (simp only [AH.size_new, AH.size_put] <;> omega))))) (q1k1z.ext (by ((repeat' (first | exact Ext.refl _ | assumption | refine Ext.trans ?_ (Ext.new _ _) | refine Ext.put ?_ ?_ _ | refine Ext.trans ?_ (by assumption))) <;> (first | omega | (simp only [AH.size_new, AH.size_put] <;> omega))))) (q1k2z.ext (by ((repeat' (first | exact Ext.refl _ | assumption | refine Ext.trans ?_ (Ext.new _ _) | refine Ext.put ?_ ?_ _ | refine Ext.trans ?_ (by assumption))) <;> (first | omega | (simp only [AH.size_new, AH.size_put] <;> omega))))) hpp hqq).mono ?_
  rintro r B21 ⟨cc, Fh, rfl, qq, fh, hE21⟩
  rw [← hy] at qq
  obtain ⟨rhk1, rhk2, Rhk1, Rhk2, rfl, hRh, phk1, phk2, ohk1, ohk2⟩ := rep_Kept.1 qq
  have v21 := hE21.size
  try simp only [AH.size_new, AH.size_put] at v21
  simp (maxSteps := 2000000) (disch := first | omega | (simp only [AH.size_new, AH.size_put] <;> omega) | fail) only [amR Tryd.prog ro X, amS, seval, reduceCtorEq, ty3, ty4, ty9, ty47, ty48, ty50, ty53, ty55, ty88, hE1.get, hE2.get, hE3.get, hE4.get, hE5.get, hE6.get, hE7.get, hE8.get, hE9.get, hE10.get, hE11.get, hE12.get, hE13.get, hK14, hK15, kn, hE16.get, hK17, kr, hE18.get, hE19.get, hE20.get, hE21.get]
  refine (Law.eq_Kept _ (by first | omega | (simp only [AH.size_new, AH.size_put] <;> omega)) y y _ _ _ _ (rep_Kept.2 ⟨rhk1, rhk2, _, _, rfl, rfl, phk1.ext (by ((repeat' (first | exact Ext.refl _ | assumption | refine Ext.trans ?_ (Ext.new _ _) | refine Ext.put ?_ ?_ _ | refine Ext.trans ?_ (by assumption))) <;> (first | omega | (simp only [AH.size_new, AH.size_put] <;> omega)))), phk2.ext (by ((repeat' (first | exact Ext.refl _ | assumption | refine Ext.trans ?_ (Ext.new _ _) | refine Ext.put ?_ ?_ _ | refine Ext.trans ?_ (by assumption))) <;> (first | omega | (simp only [AH.size_new, AH.size_put] <;> omega)))), ohk1, ohk2⟩) (rep_Kept.2 ⟨rwk1, rwk2, _, _, rfl, rfl, pwk1.ext (by ((repeat' (first | exact Ext.refl _ | assumption | refine Ext.trans ?_ (Ext.new _ _) | refine Ext.put ?_ ?_ _ | refine Ext.trans ?_ (by assumption))) <;> (first | omega | (simp only [AH.size_new, AH.size_put] <;> omega)))), pwk2.ext (by ((repeat' (first | exact Ext.refl _ | assumption | refine Ext.trans ?_ (Ext.new _ _) | refine Ext.put ?_ ?_ _ | refine Ext.trans ?_ (by assumption))) <;> (first | omega | (simp only [AH.size_new, AH.size_put] <;> omega)))), owk1, owk2⟩) (by omega)).mono ?_
  rintro r B22 ⟨rfl, hE22⟩
  have v22 := hE22.size
  try simp only [AH.size_new, AH.size_put] at v22
  simp (maxSteps := 2000000) (disch := first | omega | (simp only [AH.size_new, AH.size_put] <;> omega) | fail) only [amR Tryd.prog ro X, amS, seval, reduceCtorEq, ty3, ty4, ty9, ty47, ty48, ty50, ty53, ty55, ty88, hE1.get, hE2.get, hE3.get, hE4.get, hE5.get, hE6.get, hE7.get, hE8.get, hE9.get, hE10.get, hE11.get, hE12.get, hE13.get, hK14, hK15, kn, hE16.get, hK17, kr, hE18.get, hE19.get, hE20.get, hE21.get, hE22.get]
  refine (Law.hd_Kept _ (by first | omega | (simp only [AH.size_new, AH.size_put] <;> omega)) _ _ rgk1 _ _ rgk2 _ _ _ _ 1 (a17k1.ext (by ((repeat' (first | exact Ext.refl _ | assumption | refine Ext.trans ?_ (Ext.new _ _) | refine Ext.put ?_ ?_ _ | refine Ext.trans ?_ (by assumption))) <;> (first | omega | (simp only [AH.size_new, AH.size_put] <;> omega))))) (a17k2.ext (by ((repeat' (first | exact Ext.refl _ | assumption | refine Ext.trans ?_ (Ext.new _ _) | refine Ext.put ?_ ?_ _ | refine Ext.trans ?_ (by assumption))) <;> (first | omega | (simp only [AH.size_new, AH.size_put] <;> omega))))) ⟨by omega, by omega⟩).mono ?_
  rintro r B23 ⟨rfl, hE23⟩
  have v23 := hE23.size
  try simp only [AH.size_new, AH.size_put] at v23
  simp (maxSteps := 2000000) (disch := first | omega | (simp only [AH.size_new, AH.size_put] <;> omega) | fail) only [amR Tryd.prog ro X, amS, seval, reduceCtorEq, ty3, ty4, ty9, ty47, ty48, ty50, ty53, ty55, ty88, hE1.get, hE2.get, hE3.get, hE4.get, hE5.get, hE6.get, hE7.get, hE8.get, hE9.get, hE10.get, hE11.get, hE12.get, hE13.get, hK14, hK15, kn, hE16.get, hK17, kr, hE18.get, hE19.get, hE20.get, hE21.get, hE22.get, hE23.get]
end Go.Proofs.YtcdnlghlbljopaaDoor.Amu.LMerge
