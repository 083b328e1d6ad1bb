/- The exact law on PutText, reckoned. -/
import Derived.Test.YtcdnlghlbljopaaDoorAmuPut
import Derived.Test.YtcdnlghlbljopaaDoorAmuLawA
import Derived.Test.YtcdnlghlbljopaaDoorAmuLawB
namespace Go.Proofs.YtcdnlghlbljopaaDoor.Amu.LPutText
open Go Go.AM Go.Proofs
set_option linter.unusedVariables false
set_option linter.unusedSimpArgs false
set_option maxHeartbeats 4000000
theorem ty3 : tKind Tryd.prog 3 = some (.int .i64) ∧ tSize Tryd.prog 3 = some 1 ∧ tAgg Tryd.prog 3 = some false ∧ tZero Tryd.prog 3 = some (.int .i64 0) := ⟨by kernel_rfl, by kernel_rfl, by kernel_rfl, by kernel_rfl⟩
theorem ty4 : tKind Tryd.prog 4 = some (.bool) ∧ tSize Tryd.prog 4 = some 1 ∧ tAgg Tryd.prog 4 = some false ∧ tZero Tryd.prog 4 = some (.bool false) := ⟨by kernel_rfl, by kernel_rfl, by kernel_rfl, by kernel_rfl⟩
theorem ty9 : tKind Tryd.prog 9 = some (.str) ∧ tSize Tryd.prog 9 = some 1 ∧ tAgg Tryd.prog 9 = some false ∧ tZero Tryd.prog 9 = some (.string ByteArray.empty) := ⟨by kernel_rfl, by kernel_rfl, by kernel_rfl, by kernel_rfl⟩
theorem ty47 : tKind Tryd.prog 47 = some (.slice) ∧ tSize Tryd.prog 47 = some 1 ∧ tAgg Tryd.prog 47 = some false ∧ tZero Tryd.prog 47 = some (.slice none 0 0) ∧ tElem Tryd.prog 47 = some 9 ∧ tElemSize Tryd.prog 47 = some 1 ∧ tBytes Tryd.prog 47 = false := ⟨by kernel_rfl, by kernel_rfl, by kernel_rfl, by kernel_rfl, by kernel_rfl, by kernel_rfl, by kernel_rfl⟩
theorem ty48 : tKind Tryd.prog 48 = some (.slice) ∧ tSize Tryd.prog 48 = some 1 ∧ tAgg Tryd.prog 48 = some false ∧ tZero Tryd.prog 48 = some (.slice none 0 0) ∧ tElem Tryd.prog 48 = some 208 ∧ tElemSize Tryd.prog 48 = some 3 ∧ tBytes Tryd.prog 48 = false := ⟨by kernel_rfl, by kernel_rfl, by kernel_rfl, by kernel_rfl, by kernel_rfl, by kernel_rfl, by kernel_rfl⟩
theorem ty50 : tKind Tryd.prog 50 = some (.struct) ∧ tSize Tryd.prog 50 = some 3 ∧ tAgg Tryd.prog 50 = some true ∧ tZero Tryd.prog 50 = some (.agg #[.int .i64 0, .slice none 0 0, .slice none 0 0]) ∧ tField Tryd.prog 50 0 = some (0, 3) ∧ tField Tryd.prog 50 1 = some (1, 47) ∧ tField Tryd.prog 50 2 = some (2, 48) ∧ tPlaces Tryd.prog 50 = some [(0, 1), (1, 1), (2, 1)] := ⟨by kernel_rfl, by kernel_rfl, by kernel_rfl, by kernel_rfl, by kernel_rfl, by kernel_rfl, by kernel_rfl, by kernel_rfl⟩
theorem ty53 : tKind Tryd.prog 53 = some (.slice) ∧ tSize Tryd.prog 53 = some 1 ∧ tAgg Tryd.prog 53 = some false ∧ tZero Tryd.prog 53 = some (.slice none 0 0) ∧ tElem Tryd.prog 53 = some 69 ∧ tElemSize Tryd.prog 53 = some 3 ∧ tBytes Tryd.prog 53 = false := ⟨by kernel_rfl, by kernel_rfl, by kernel_rfl, by kernel_rfl, by kernel_rfl, by kernel_rfl, by kernel_rfl⟩
theorem ty55 : tKind Tryd.prog 55 = some (.struct) ∧ tSize Tryd.prog 55 = some 3 ∧ tAgg Tryd.prog 55 = some true ∧ tZero Tryd.prog 55 = some (.agg #[.int .i64 0, .slice none 0 0, .slice none 0 0]) ∧ tField Tryd.prog 55 0 = some (0, 3) ∧ tField Tryd.prog 55 1 = some (1, 47) ∧ tField Tryd.prog 55 2 = some (2, 53) ∧ tPlaces Tryd.prog 55 = some [(0, 1), (1, 1), (2, 1)] := ⟨by kernel_rfl, by kernel_rfl, by kernel_rfl, by kernel_rfl, by kernel_rfl, by kernel_rfl, by kernel_rfl, by kernel_rfl⟩
theorem ty88 : tKind Tryd.prog 88 = some (.struct) ∧ tSize Tryd.prog 88 = some 6 ∧ tAgg Tryd.prog 88 = some true ∧ tZero Tryd.prog 88 = some (.agg #[.int .i64 0, .int .i64 0, .slice none 0 0, .slice none 0 0, .string ByteArray.empty, .string ByteArray.empty]) ∧ tField Tryd.prog 88 0 = some (0, 3) ∧ tField Tryd.prog 88 1 = some (1, 55) ∧ tField Tryd.prog 88 2 = some (4, 9) ∧ tField Tryd.prog 88 3 = some (5, 9) ∧ tPlaces Tryd.prog 88 = some [(0, 1), (1, 3), (4, 1), (5, 1)] := ⟨by kernel_rfl, by kernel_rfl, by kernel_rfl, by kernel_rfl, by kernel_rfl, by kernel_rfl, by kernel_rfl, by kernel_rfl, by kernel_rfl⟩

variable {ro : Nat} {X : FuncId → List Value → AH → ARes → AH → Prop}
set_option maxRecDepth 10000
theorem law_a (A : AH) (hro : ro ≤ A.size) (hT : Tab 0 A) (x0 : TStore) (c0 : List Value) (F0 : List Nat) (h0 : Dat.rep A x0 c0 F0) (b0 : Mk.bd x0) (x1 : ByteArray) (hx1 : x1.size < 4611686018427387904) :
    ACalls Tryd.prog ro X 10 [.agg c0.toArray, .string x1] A (fun r _ => r = .ret (.bool true)) := by
  refine ACalls.enterQ (rs := [.tmp 4]) Tryd.func10 rfl (by kernel_rfl) rfl ?_
  have hh0 := h0
  obtain ⟨w0k1, w0k2, _, _, rfl, _, _, _⟩ := rep_Store.1 hh0
  by_cases hbig1 : (1048576 : Int) < x1.size
  · simp (maxSteps := 2000000) (disch := first | omega | (simp only [AH.size_new, AH.size_put] <;> omega) | fail) only [amR Tryd.prog ro X, amS, seval, reduceCtorEq, ty3, ty4, ty9, ty47, ty48, ty50, ty53, ty55, ty88, hbig1]
  simp (maxSteps := 2000000) (disch := first | omega | (simp only [AH.size_new, AH.size_put] <;> omega) | fail) only [amR Tryd.prog ro X, amS, seval, reduceCtorEq, ty3, ty4, ty9, ty47, ty48, ty50, ty53, ty55, ty88, hbig1]
  refine (Law.sz_Store _ (by first | omega | (simp only [AH.size_new, AH.size_put] <;> omega)) x0 _ _ (Dat.ext h0 (by ((repeat' (first | exact Ext.refl _ | assumption | refine Ext.trans ?_ (Ext.new _ _) | refine Ext.put ?_ ?_ _ | refine Ext.trans ?_ (by assumption))) <;> (first | omega | (simp only [AH.size_new, AH.size_put] <;> omega))))) b0 (1048576) (by omega)).mono ?_
  rintro r B1 ⟨rfl, hE1⟩
  have v1 := hE1.size
  try simp only [AH.size_new, AH.size_put] at v1
  by_cases z0 : 1048576 - (Mk.sz x0 : Nat) < (0 : Int)
  · rw [szR_neg z0]
    simp (maxSteps := 2000000) (disch := first | omega | (simp only [AH.size_new, AH.size_put] <;> omega) | fail) only [amR Tryd.prog ro X, amS, seval, reduceCtorEq, ty3, ty4, ty9, ty47, ty48, ty50, ty53, ty55, ty88, hbig1, hE1.get]
  rw [szR_pos z0]
  simp (maxSteps := 2000000) (disch := first | omega | (simp only [AH.size_new, AH.size_put] <;> omega) | fail) only [amR Tryd.prog ro X, amS, seval, reduceCtorEq, ty3, ty4, ty9, ty47, ty48, ty50, ty53, ty55, ty88, hbig1, hE1.get, z0]
  have hq0 : Mk.sz x0 = 0 + (szL Mk.sz x0.2.1 + szL Mk.sz x0.2.2) := rfl
  have hpp : ∀ r ∈ x0.2.2, r.1.length < 4294967296 := fun r hr => by have := mem_szR hr; omega
  obtain ⟨y, hy⟩ : ∃ y, y = putT x0 x1 := ⟨_, rfl⟩
  have ysz : Mk.sz y < 1073741824 := by
    rw [hy]
    have := putT_sz x0 x1
    omega
  have ye1 : Mk.sz y = Mk.sz y.1 + Mk.sz y.2 := rfl
  have ye2 : Mk.sz y.2 = Mk.sz y.2.1 + Mk.sz y.2.2 := rfl
  have ye3 : Mk.sz y.2.1 = Mk.sz y.2.1.1 + Mk.sz y.2.1.2 := rfl
  have ye4 : Mk.sz y.2.1.2 = Mk.sz y.2.1.2.1 + Mk.sz y.2.1.2.2 := rfl
  have ye5 : Mk.sz y.2.2 = Mk.sz y.2.2.1 + Mk.sz y.2.2.2 := rfl
  have yl1 : Mk.sz y.2.1.2.1 = szL Mk.sz y.2.1.2.1 := rfl
  have yn1 := nmL_Str y.2.1.2.1
  have yl2 : Mk.sz y.2.1.2.2 = szL Mk.sz y.2.1.2.2 := rfl
  have yn2 := nmL_Record y.2.1.2.2
  have m0e1 : Mk.sz x0 = Mk.sz x0.1 + Mk.sz x0.2 := rfl
  have m0e2 : Mk.sz x0.2 = Mk.sz x0.2.1 + Mk.sz x0.2.2 := rfl
  have m0l1 : Mk.sz x0.2.1 = szL Mk.sz x0.2.1 := rfl
  have m0n1 := nmL_Str x0.2.1
  have m0l2 : Mk.sz x0.2.2 = szL Mk.sz x0.2.2 := rfl
  have m0n2 := nmL_Record x0.2.2
  refine (Law.to_Store _ (by first | omega | (simp only [AH.size_new, AH.size_put] <;> omega)) x0 _ _ (Dat.ext h0 (by ((repeat' (first | exact Ext.refl _ | assumption | refine Ext.trans ?_ (Ext.new _ _) | refine Ext.put ?_ ?_ _ | refine Ext.trans ?_ (by assumption))) <;> (first | omega | (simp only [AH.size_new, AH.size_put] <;> omega))))) (by omega)).mono ?_
  rintro r B2 ⟨cc, H0w, rfl, qq, f0w, hE2⟩
  obtain ⟨t0k1w, t0k2w, G0k1w, G0k2w, rfl, hH0w, q0k1w, q0k2w⟩ := rep_Store.1 qq
  have v2 := hE2.size
  try simp only [AH.size_new, AH.size_put] at v2
  simp (maxSteps := 2000000) (disch := first | omega | (simp only [AH.size_new, AH.size_put] <;> omega) | fail) only [amR Tryd.prog ro X, amS, seval, reduceCtorEq, ty3, ty4, ty9, ty47, ty48, ty50, ty53, ty55, ty88, hbig1, hE1.get, hE2.get]
  refine (Put.spec_a _ (by first | omega | (simp only [AH.size_new, AH.size_put] <;> omega)) t0k1w t0k2w x0 _ _ (q0k1w.ext (by ((repeat' (first | exact Ext.refl _ | assumption | refine Ext.trans ?_ (Ext.new _ _) | refine Ext.put ?_ ?_ _ | refine Ext.trans ?_ (by assumption))) <;> (first | omega | (simp only [AH.size_new, AH.size_put] <;> omega))))) (q0k2w.ext (by ((repeat' (first | exact Ext.refl _ | assumption | refine Ext.trans ?_ (Ext.new _ _) | refine Ext.put ?_ ?_ _ | refine Ext.trans ?_ (by assumption))) <;> (first | omega | (simp only [AH.size_new, AH.size_put] <;> omega))))) hpp x1 (by omega)).mono ?_
  rintro r B3 ⟨cc, Fw, rfl, qq, hE3⟩
  rw [← hy] at qq
  have bdw := Dat.bound qq
  obtain ⟨rwk1, rwk2, Rwk1, Rwk2, rfl, hRw, pwk1, pwk2, owk1, owk2⟩ := rep_Kept.1 qq
  have v3 := hE3.size
  try simp only [AH.size_new, AH.size_put] at v3
  simp (maxSteps := 2000000) (disch := first | omega | (simp only [AH.size_new, AH.size_put] <;> omega) | fail) only [amR Tryd.prog ro X, amS, seval, reduceCtorEq, ty3, ty4, ty9, ty47, ty48, ty50, ty53, ty55, ty88, hbig1, hE1.get, hE2.get, hE3.get]
  refine (Law.to_Store _ (by first | omega | (simp only [AH.size_new, AH.size_put] <;> omega)) x0 _ _ (Dat.ext h0 (by ((repeat' (first | exact Ext.refl _ | assumption | refine Ext.trans ?_ (Ext.new _ _) | refine Ext.put ?_ ?_ _ | refine Ext.trans ?_ (by assumption))) <;> (first | omega | (simp only [AH.size_new, AH.size_put] <;> omega))))) (by omega)).mono ?_
  rintro r B4 ⟨cc, H0x, rfl, qq, f0x, hE4⟩
  obtain ⟨t0k1x, t0k2x, G0k1x, G0k2x, rfl, hH0x, q0k1x, q0k2x⟩ := rep_Store.1 qq
  have v4 := hE4.size
  try simp only [AH.size_new, AH.size_put] at v4
  simp (maxSteps := 2000000) (disch := first | omega | (simp only [AH.size_new, AH.size_put] <;> omega) | fail) only [amR Tryd.prog ro X, amS, seval, reduceCtorEq, ty3, ty4, ty9, ty47, ty48, ty50, ty53, ty55, ty88, hbig1, hE1.get, hE2.get, hE3.get, hE4.get]
  refine (Put.impl_a _ (by first | omega | (simp only [AH.size_new, AH.size_put] <;> omega)) (hT.ext (by ((repeat' (first | exact Ext.refl _ | assumption | refine Ext.trans ?_ (Ext.new _ _) | refine Ext.put ?_ ?_ _ | refine Ext.trans ?_ (by assumption))) <;> (first | omega | (simp only [AH.size_new, AH.size_put] <;> omega))))) t0k1x t0k2x x0 _ _ (q0k1x.ext (by ((repeat' (first | exact Ext.refl _ | assumption | refine Ext.trans ?_ (Ext.new _ _) | refine Ext.put ?_ ?_ _ | refine Ext.trans ?_ (by assumption))) <;> (first | omega | (simp only [AH.size_new, AH.size_put] <;> omega))))) (q0k2x.ext (by ((repeat' (first | exact Ext.refl _ | assumption | refine Ext.trans ?_ (Ext.new _ _) | refine Ext.put ?_ ?_ _ | refine Ext.trans ?_ (by assumption))) <;> (first | omega | (simp only [AH.size_new, AH.size_put] <;> omega))))) hpp x1 (by omega)).mono ?_
  rintro r B5 ⟨cc, Fg, rfl, qq, fg, hE5⟩
  rw [← hy] at qq
  obtain ⟨rgk1, rgk2, Rgk1, Rgk2, rfl, hRg, pgk1, pgk2, ogk1, ogk2⟩ := rep_Kept.1 qq
  have v5 := hE5.size
  try simp only [AH.size_new, AH.size_put] at v5
  simp (maxSteps := 2000000) (disch := first | omega | (simp only [AH.size_new, AH.size_put] <;> omega) | fail) only [amR Tryd.prog ro X, amS, seval, reduceCtorEq, ty3, ty4, ty9, ty47, ty48, ty50, ty53, ty55, ty88, hbig1, hE1.get, hE2.get, hE3.get, hE4.get, hE5.get]
  refine (Law.eq_Kept _ (by first | omega | (simp only [AH.size_new, AH.size_put] <;> omega)) y y _ _ _ _ (rep_Kept.2 ⟨rgk1, rgk2, _, _, rfl, rfl, pgk1.ext (by ((repeat' (first | exact Ext.refl _ | assumption | refine Ext.trans ?_ (Ext.new _ _) | refine Ext.put ?_ ?_ _ | refine Ext.trans ?_ (by assumption))) <;> (first | omega | (simp only [AH.size_new, AH.size_put] <;> omega)))), pgk2.ext (by ((repeat' (first | exact Ext.refl _ | assumption | refine Ext.trans ?_ (Ext.new _ _) | refine Ext.put ?_ ?_ _ | refine Ext.trans ?_ (by assumption))) <;> (first | omega | (simp only [AH.size_new, AH.size_put] <;> omega)))), ogk1, ogk2⟩) (rep_Kept.2 ⟨rwk1, rwk2, _, _, rfl, rfl, pwk1.ext (by ((repeat' (first | exact Ext.refl _ | assumption | refine Ext.trans ?_ (Ext.new _ _) | refine Ext.put ?_ ?_ _ | refine Ext.trans ?_ (by assumption))) <;> (first | omega | (simp only [AH.size_new, AH.size_put] <;> omega)))), pwk2.ext (by ((repeat' (first | exact Ext.refl _ | assumption | refine Ext.trans ?_ (Ext.new _ _) | refine Ext.put ?_ ?_ _ | refine Ext.trans ?_ (by assumption))) <;> (first | omega | (simp only [AH.size_new, AH.size_put] <;> omega)))), owk1, owk2⟩) (by omega)).mono ?_
  rintro r B6 ⟨rfl, hE6⟩
  have v6 := hE6.size
  try simp only [AH.size_new, AH.size_put] at v6
  simp (maxSteps := 2000000) (disch := first | omega | (simp only [AH.size_new, AH.size_put] <;> omega) | fail) only [amR Tryd.prog ro X, amS, seval, reduceCtorEq, ty3, ty4, ty9, ty47, ty48, ty50, ty53, ty55, ty88, hbig1, hE1.get, hE2.get, hE3.get, hE4.get, hE5.get, hE6.get]
  refine Wp.runG [2] (by kernel_rfl) (.inl (by kernel_rfl)) ?_
  simp (maxSteps := 2000000) (disch := first | omega | (simp only [AH.size_new, AH.size_put] <;> omega) | fail) only [amR Tryd.prog ro X, amS, seval, reduceCtorEq, ty3, ty4, ty9, ty47, ty48, ty50, ty53, ty55, ty88, hbig1, hE1.get, hE2.get, hE3.get, hE4.get, hE5.get, hE6.get]
  refine (Law.to_Store _ (by first | omega | (simp only [AH.size_new, AH.size_put] <;> omega)) x0 _ _ (Dat.ext h0 (by ((repeat' (first | exact Ext.refl _ | assumption | refine Ext.trans ?_ (Ext.new _ _) | refine Ext.put ?_ ?_ _ | refine Ext.trans ?_ (by assumption))) <;> (first | omega | (simp only [AH.size_new, AH.size_put] <;> omega))))) (by omega)).mono ?_
  rintro r B7 ⟨cc, H0y, rfl, qq, f0y, hE7⟩
  obtain ⟨t0k1y, t0k2y, G0k1y, G0k2y, rfl, hH0y, q0k1y, q0k2y⟩ := rep_Store.1 qq
  have v7 := hE7.size
  try simp only [AH.size_new, AH.size_put] at v7
  simp (maxSteps := 2000000) (disch := first | omega | (simp only [AH.size_new, AH.size_put] <;> omega) | fail) only [amR Tryd.prog ro X, amS, seval, reduceCtorEq, ty3, ty4, ty9, ty47, ty48, ty50, ty53, ty55, ty88, hbig1, hE1.get, hE2.get, hE3.get, hE4.get, hE5.get, hE6.get]
  refine ⟨fun b hb => hE7.get b hb, ?_⟩
  try simp (maxSteps := 2000000) (disch := first | omega | (simp only [AH.size_new, AH.size_put] <;> omega) | fail) only [amR Tryd.prog ro X, amS, seval, reduceCtorEq, ty3, ty4, ty9, ty47, ty48, ty50, ty53, ty55, ty88, hbig1, hE1.get, hE2.get, hE3.get, hE4.get, hE5.get, hE6.get, hE7.get]
  refine (Law.eq_Store _ (by first | omega | (simp only [AH.size_new, AH.size_put] <;> omega)) x0 x0 _ _ _ _ (rep_Store.2 ⟨t0k1x, t0k2x, _, _, rfl, rfl, q0k1x.ext (by ((repeat' (first | exact Ext.refl _ | assumption | refine Ext.trans ?_ (Ext.new _ _) | refine Ext.put ?_ ?_ _ | refine Ext.trans ?_ (by assumption))) <;> (first | omega | (simp only [AH.size_new, AH.size_put] <;> omega)))), q0k2x.ext (by ((repeat' (first | exact Ext.refl _ | assumption | refine Ext.trans ?_ (Ext.new _ _) | refine Ext.put ?_ ?_ _ | refine Ext.trans ?_ (by assumption))) <;> (first | omega | (simp only [AH.size_new, AH.size_put] <;> omega))))⟩) (rep_Store.2 ⟨t0k1y, t0k2y, _, _, rfl, rfl, q0k1y.ext (by ((repeat' (first | exact Ext.refl _ | assumption | refine Ext.trans ?_ (Ext.new _ _) | refine Ext.put ?_ ?_ _ | refine Ext.trans ?_ (by assumption))) <;> (first | omega | (simp only [AH.size_new, AH.size_put] <;> omega)))), q0k2y.ext (by ((repeat' (first | exact Ext.refl _ | assumption | refine Ext.trans ?_ (Ext.new _ _) | refine Ext.put ?_ ?_ _ | refine Ext.trans ?_ (by assumption))) <;> (first | omega | (simp only [AH.size_new, AH.size_put] <;> omega))))⟩) (by omega)).mono ?_
  rintro r B8 ⟨rfl, hE8⟩
  have v8 := hE8.size
  try simp only [AH.size_new, AH.size_put] at v8
  simp (maxSteps := 2000000) (disch := first | omega | (simp only [AH.size_new, AH.size_put] <;> omega) | fail) only [amR Tryd.prog ro X, amS, seval, reduceCtorEq, ty3, ty4, ty9, ty47, ty48, ty50, ty53, ty55, ty88, hbig1, hE1.get, hE2.get, hE3.get, hE4.get, hE5.get, hE6.get, hE7.get, hE8.get]
  refine (Law.mk_Store _ (by first | omega | (simp only [AH.size_new, AH.size_put] <;> omega)) _ t0k1x _ _ t0k2x _ _ (1) (q0k1x.ext (by ((repeat' (first | exact Ext.refl _ | assumption | refine Ext.trans ?_ (Ext.new _ _) | refine Ext.put ?_ ?_ _ | refine Ext.trans ?_ (by assumption))) <;> (first | omega | (simp only [AH.size_new, AH.size_put] <;> omega))))) (fun b hb => by have := f0x.lo b (by rw [hH0x]; simp [hb]); first | omega | (simp only [AH.size_new, AH.size_put] at this ⊢; omega) | (simp only [AH.size_new, AH.size_put] at this; omega)) (q0k2x.ext (by ((repeat' (first | exact Ext.refl _ | assumption | refine Ext.trans ?_ (Ext.new _ _) | refine Ext.put ?_ ?_ _ | refine Ext.trans ?_ (by assumption))) <;> (first | omega | (simp only [AH.size_new, AH.size_put] <;> omega))))) (fun b hb => by have := f0x.lo b (by rw [hH0x]; simp [hb]); first | omega | (simp only [AH.size_new, AH.size_put] at this ⊢; omega) | (simp only [AH.size_new, AH.size_put] at this; omega)) (by rw [← hH0x]; exact f0x.nodup) ⟨by omega, by omega⟩).mono ?_
  rintro r B9 ⟨rfl, a9k1, a9k2, hX9⟩
  have v9 := hX9.size
  try simp only [AH.size_new, AH.size_put] at v9
  have P9 := (fun b hb => f0x.both b (by rw [hH0x]; exact hb))
  have hK9 := hX9.out P9
  have EA9 : Ext A B9 := hX9.base P9 (by ((repeat' (first | exact Ext.refl _ | assumption | refine Ext.trans ?_ (Ext.new _ _) | refine Ext.put ?_ ?_ _ | refine Ext.trans ?_ (by assumption))) <;> (first | omega | (simp only [AH.size_new, AH.size_put] <;> omega)))) (by first | omega | (simp only [AH.size_new, AH.size_put] <;> omega))
  have EW9 : Ext B3 B9 := hX9.base P9 (by ((repeat' (first | exact Ext.refl _ | assumption | refine Ext.trans ?_ (Ext.new _ _) | refine Ext.put ?_ ?_ _ | refine Ext.trans ?_ (by assumption))) <;> (first | omega | (simp only [AH.size_new, AH.size_put] <;> omega)))) (by first | omega | (simp only [AH.size_new, AH.size_put] <;> omega))
  have pgk1zm9 := (pgk1.ext (by ((repeat' (first | exact Ext.refl _ | assumption | refine Ext.trans ?_ (Ext.new _ _) | refine Ext.put ?_ ?_ _ | refine Ext.trans ?_ (by assumption))) <;> (first | omega | (simp only [AH.size_new, AH.size_put] <;> omega))))).out hX9 P9 (fun b hb => .inr (by have := fg.lo b (by rw [hRg]; simp [hb]); first | omega | (simp only [AH.size_new, AH.size_put] at this ⊢; omega) | (simp only [AH.size_new, AH.size_put] at this; omega)))
  have pgk2zm9 := (pgk2.ext (by ((repeat' (first | exact Ext.refl _ | assumption | refine Ext.trans ?_ (Ext.new _ _) | refine Ext.put ?_ ?_ _ | refine Ext.trans ?_ (by assumption))) <;> (first | omega | (simp only [AH.size_new, AH.size_put] <;> omega))))).out hX9 P9 (fun b hb => .inr (by have := fg.lo b (by rw [hRg]; simp [hb]); first | omega | (simp only [AH.size_new, AH.size_put] at this ⊢; omega) | (simp only [AH.size_new, AH.size_put] at this; omega)))
  have kn : ¬ (1 + (nmL x0.2.1 : Nat) + (nmL x0.2.2 : Nat) : Int) < 0 := by omega
  simp (maxSteps := 2000000) (disch := first | omega | (simp only [AH.size_new, AH.size_put] <;> omega) | fail) only [amR Tryd.prog ro X, amS, seval, reduceCtorEq, ty3, ty4, ty9, ty47, ty48, ty50, ty53, ty55, ty88, hbig1, hE1.get, hE2.get, hE3.get, hE4.get, hE5.get, hE6.get, hE7.get, hE8.get, hK9, kn]
  refine (Law.eq_Kept _ (by first | omega | (simp only [AH.size_new, AH.size_put] <;> omega)) y y _ _ _ _ (rep_Kept.2 ⟨rgk1, rgk2, _, _, rfl, rfl, pgk1zm9.ext (by ((repeat' (first | exact Ext.refl _ | assumption | refine Ext.trans ?_ (Ext.new _ _) | refine Ext.put ?_ ?_ _ | refine Ext.trans ?_ (by assumption))) <;> (first | omega | (simp only [AH.size_new, AH.size_put] <;> omega)))), pgk2zm9.ext (by ((repeat' (first | exact Ext.refl _ | assumption | refine Ext.trans ?_ (Ext.new _ _) | refine Ext.put ?_ ?_ _ | refine Ext.trans ?_ (by assumption))) <;> (first | omega | (simp only [AH.size_new, AH.size_put] <;> omega)))), ogk1, ogk2⟩) (rep_Kept.2 ⟨rwk1, rwk2, _, _, rfl, rfl, pwk1.ext (by ((repeat' (first | exact Ext.refl _ | assumption | refine Ext.trans ?_ (Ext.new _ _) | refine Ext.put ?_ ?_ _ | refine Ext.trans ?_ (by assumption))) <;> (first | omega | (simp only [AH.size_new, AH.size_put] <;> omega)))), pwk2.ext (by ((repeat' (first | exact Ext.refl _ | assumption | refine Ext.trans ?_ (Ext.new _ _) | refine Ext.put ?_ ?_ _ | refine Ext.trans ?_ (by assumption))) <;> (first | omega | (simp only [AH.size_new, AH.size_put] <;> omega)))), owk1, owk2⟩) (by omega)).mono ?_
  rintro r B10 ⟨rfl, hE10⟩
  have v10 := hE10.size
  try simp only [AH.size_new, AH.size_put] at v10
  simp (maxSteps := 2000000) (disch := first | omega | (simp only [AH.size_new, AH.size_put] <;> omega) | fail) only [amR Tryd.prog ro X, amS, seval, reduceCtorEq, ty3, ty4, ty9, ty47, ty48, ty50, ty53, ty55, ty88, hbig1, hE1.get, hE2.get, hE3.get, hE4.get, hE5.get, hE6.get, hE7.get, hE8.get, hK9, kn, hE10.get]
  refine (Law.mk_Kept _ (by first | omega | (simp only [AH.size_new, AH.size_put] <;> omega)) _ _ rgk1 _ _ rgk2 _ _ _ _ (1) (pgk1zm9.ext (by ((repeat' (first | exact Ext.refl _ | assumption | refine Ext.trans ?_ (Ext.new _ _) | refine Ext.put ?_ ?_ _ | refine Ext.trans ?_ (by assumption))) <;> (first | omega | (simp only [AH.size_new, AH.size_put] <;> omega))))) (fun b hb => by have := fg.lo b (by rw [hRg]; simp [hb]); first | omega | (simp only [AH.size_new, AH.size_put] at this ⊢; omega) | (simp only [AH.size_new, AH.size_put] at this; omega)) (pgk2zm9.ext (by ((repeat' (first | exact Ext.refl _ | assumption | refine Ext.trans ?_ (Ext.new _ _) | refine Ext.put ?_ ?_ _ | refine Ext.trans ?_ (by assumption))) <;> (first | omega | (simp only [AH.size_new, AH.size_put] <;> omega))))) (fun b hb => by have := fg.lo b (by rw [hRg]; simp [hb]); first | omega | (simp only [AH.size_new, AH.size_put] at this ⊢; omega) | (simp only [AH.size_new, AH.size_put] at this; omega)) (by rw [← hRg]; exact fg.nodup) ⟨by omega, by omega⟩).mono ?_
  rintro r B11 ⟨rfl, a11k1, a11k2, hX11⟩
  have v11 := hX11.size
  try simp only [AH.size_new, AH.size_put] at v11
  have P11 := (fun b hb => fg.both b (by rw [hRg]; exact hb))
  have hK11 := hX11.out P11
  have EA11 : Ext A B11 := hX11.base P11 (by ((repeat' (first | exact Ext.refl _ | assumption | refine Ext.trans ?_ (Ext.new _ _) | refine Ext.put ?_ ?_ _ | refine Ext.trans ?_ (by assumption))) <;> (first | omega | (simp only [AH.size_new, AH.size_put] <;> omega)))) (by first | omega | (simp only [AH.size_new, AH.size_put] <;> omega))
  have EW11 : Ext B3 B11 := hX11.base P11 (by ((repeat' (first | exact Ext.refl _ | assumption | refine Ext.trans ?_ (Ext.new _ _) | refine Ext.put ?_ ?_ _ | refine Ext.trans ?_ (by assumption))) <;> (first | omega | (simp only [AH.size_new, AH.size_put] <;> omega)))) (by first | omega | (simp only [AH.size_new, AH.size_put] <;> omega))
  have kr : ¬ (1 + (nmL y.2.1.2.1 : Nat) + (nmL y.2.1.2.2 : Nat) : Int) < 0 := by omega
  simp (maxSteps := 2000000) (disch := first | omega | (simp only [AH.size_new, AH.size_put] <;> omega) | fail) only [amR Tryd.prog ro X, amS, seval, reduceCtorEq, ty3, ty4, ty9, ty47, ty48, ty50, ty53, ty55, ty88, hbig1, hE1.get, hE2.get, hE3.get, hE4.get, hE5.get, hE6.get, hE7.get, hE8.get, hK9, kn, hE10.get, hK11, kr]
  refine (Law.hd_Kept _ (by first | omega | (simp only [AH.size_new, AH.size_put] <;> omega)) _ _ rgk1 _ _ rgk2 _ _ _ _ 1 (a11k1.ext (by ((repeat' (first | exact Ext.refl _ | assumption | refine Ext.trans ?_ (Ext.new _ _) | refine Ext.put ?_ ?_ _ | refine Ext.trans ?_ (by assumption))) <;> (first | omega | (simp only [AH.size_new, AH.size_put] <;> omega))))) (a11k2.ext (by ((repeat' (first | exact Ext.refl _ | assumption | refine Ext.trans ?_ (Ext.new _ _) | refine Ext.put ?_ ?_ _ | refine Ext.trans ?_ (by assumption))) <;> (first | omega | (simp only [AH.size_new, AH.size_put] <;> omega))))) ⟨by omega, by omega⟩).mono ?_
  rintro r B12 ⟨rfl, hE12⟩
  have v12 := hE12.size
  try simp only [AH.size_new, AH.size_put] at v12
  simp (maxSteps := 2000000) (disch := first | omega | (simp only [AH.size_new, AH.size_put] <;> omega) | fail) only [amR Tryd.prog ro X, amS, seval, reduceCtorEq, ty3, ty4, ty9, ty47, ty48, ty50, ty53, ty55, ty88, hbig1, hE1.get, hE2.get, hE3.get, hE4.get, hE5.get, hE6.get, hE7.get, hE8.get, hK9, kn, hE10.get, hK11, kr, hE12.get]
  refine (Law.to_Store _ (by first | omega | (simp only [AH.size_new, AH.size_put] <;> omega)) x0 _ _ (Dat.ext h0 (by ((repeat' (first | exact Ext.refl _ | assumption | refine Ext.trans ?_ (Ext.new _ _) | refine Ext.put ?_ ?_ _ | refine Ext.trans ?_ (by assumption))) <;> (first | omega | (simp only [AH.size_new, AH.size_put] <;> omega))))) (by omega)).mono ?_
  rintro r B13 ⟨cc, H0z, rfl, qq, f0z, hE13⟩
  obtain ⟨t0k1z, t0k2z, G0k1z, G0k2z, rfl, hH0z, q0k1z, q0k2z⟩ := rep_Store.1 qq
  have v13 := hE13.size
  try simp only [AH.size_new, AH.size_put] at v13
  simp (maxSteps := 2000000) (disch := first | omega | (simp only [AH.size_new, AH.size_put] <;> omega) | fail) only [amR Tryd.prog ro X, amS, seval, reduceCtorEq, ty3, ty4, ty9, ty47, ty48, ty50, ty53, ty55, ty88, hbig1, hE1.get, hE2.get, hE3.get, hE4.get, hE5.get, hE6.get, hE7.get, hE8.get, hK9, kn, hE10.get, hK11, kr, hE12.get, hE13.get]
  refine (Put.impl_a _ (by first | omega | (simp only [AH.size_new, AH.size_put] <;> omega)) (hT.ext (by ((repeat' (first | exact Ext.refl _ | assumption | refine Ext.trans ?_ (Ext.new _ _) | refine Ext.put ?_ ?_ _ | refine Ext.trans ?_ (by assumption))) <;> (first | omega | (simp only [AH.size_new, AH.size_put] <;> omega))))) t0k1z t0k2z x0 _ _ (q0k1z.ext (by ((repeat' (first | exact Ext.refl _ | assumption | refine Ext.trans ?_ (Ext.new _ _) | refine Ext.put ?_ ?_ _ | refine Ext.trans ?_ (by assumption))) <;> (first | omega | (simp only [AH.size_new, AH.size_put] <;> omega))))) (q0k2z.ext (by ((repeat' (first | exact Ext.refl _ | assumption | refine Ext.trans ?_ (Ext.new _ _) | refine Ext.put ?_ ?_ _ | refine Ext.trans ?_ (by assumption))) <;> (first | omega | (simp only [AH.size_new, AH.size_put] <;> omega))))) hpp x1 (by omega)).mono ?_
  rintro r B14 ⟨cc, Fh, rfl, qq, fh, hE14⟩
  rw [← hy] at qq
  obtain ⟨rhk1, rhk2, Rhk1, Rhk2, rfl, hRh, phk1, phk2, ohk1, ohk2⟩ := rep_Kept.1 qq
  have v14 := hE14.size
  try simp only [AH.size_new, AH.size_put] at v14
  simp (maxSteps := 2000000) (disch := first | omega | (simp only [AH.size_new, AH.size_put] <;> omega) | fail) only [amR Tryd.prog ro X, amS, seval, reduceCtorEq, ty3, ty4, ty9, ty47, ty48, ty50, ty53, ty55, ty88, hbig1, hE1.get, hE2.get, hE3.get, hE4.get, hE5.get, hE6.get, hE7.get, hE8.get, hK9, kn, hE10.get, hK11, kr, hE12.get, hE13.get, hE14.get]
  refine (Law.eq_Kept _ (by first | omega | (simp only [AH.size_new, AH.size_put] <;> omega)) y y _ _ _ _ (rep_Kept.2 ⟨rhk1, rhk2, _, _, rfl, rfl, phk1.ext (by ((repeat' (first | exact Ext.refl _ | assumption | refine Ext.trans ?_ (Ext.new _ _) | refine Ext.put ?_ ?_ _ | refine Ext.trans ?_ (by assumption))) <;> (first | omega | (simp only [AH.size_new, AH.size_put] <;> omega)))), phk2.ext (by ((repeat' (first | exact Ext.refl _ | assumption | refine Ext.trans ?_ (Ext.new _ _) | refine Ext.put ?_ ?_ _ | refine Ext.trans ?_ (by assumption))) <;> (first | omega | (simp only [AH.size_new, AH.size_put] <;> omega)))), ohk1, ohk2⟩) (rep_Kept.2 ⟨rwk1, rwk2, _, _, rfl, rfl, pwk1.ext (by ((repeat' (first | exact Ext.refl _ | assumption | refine Ext.trans ?_ (Ext.new _ _) | refine Ext.put ?_ ?_ _ | refine Ext.trans ?_ (by assumption))) <;> (first | omega | (simp only [AH.size_new, AH.size_put] <;> omega)))), pwk2.ext (by ((repeat' (first | exact Ext.refl _ | assumption | refine Ext.trans ?_ (Ext.new _ _) | refine Ext.put ?_ ?_ _ | refine Ext.trans ?_ (by assumption))) <;> (first | omega | (simp only [AH.size_new, AH.size_put] <;> omega)))), owk1, owk2⟩) (by omega)).mono ?_
  rintro r B15 ⟨rfl, hE15⟩
  have v15 := hE15.size
  try simp only [AH.size_new, AH.size_put] at v15
  simp (maxSteps := 2000000) (disch := first | omega | (simp only [AH.size_new, AH.size_put] <;> omega) | fail) only [amR Tryd.prog ro X, amS, seval, reduceCtorEq, ty3, ty4, ty9, ty47, ty48, ty50, ty53, ty55, ty88, hbig1, hE1.get, hE2.get, hE3.get, hE4.get, hE5.get, hE6.get, hE7.get, hE8.get, hK9, kn, hE10.get, hK11, kr, hE12.get, hE13.get, hE14.get, hE15.get]
  refine (Law.hd_Kept _ (by first | omega | (simp only [AH.size_new, AH.size_put] <;> omega)) _ _ rgk1 _ _ rgk2 _ _ _ _ 1 (a11k1.ext (by ((repeat' (first | exact Ext.refl _ | assumption | refine Ext.trans ?_ (Ext.new _ _) | refine Ext.put ?_ ?_ _ | refine Ext.trans ?_ (by assumption))) <;> (first | omega | (simp only [AH.size_new, AH.size_put] <;> omega))))) (a11k2.ext (by ((repeat' (first | exact Ext.refl _ | assumption | refine Ext.trans ?_ (Ext.new _ _) | refine Ext.put ?_ ?_ _ | refine Ext.trans ?_ (by assumption))) <;> (first | omega | (simp only [AH.size_new, AH.size_put] <;> omega))))) ⟨by omega, by omega⟩).mono ?_
  rintro r B16 ⟨rfl, hE16⟩
  have v16 := hE16.size
  try simp only [AH.size_new, AH.size_put] at v16
  simp (maxSteps := 2000000) (disch := first | omega | (simp only [AH.size_new, AH.size_put] <;> omega) | fail) only [amR Tryd.prog ro X, amS, seval, reduceCtorEq, ty3, ty4, ty9, ty47, ty48, ty50, ty53, ty55, ty88, hbig1, hE1.get, hE2.get, hE3.get, hE4.get, hE5.get, hE6.get, hE7.get, hE8.get, hK9, kn, hE10.get, hK11, kr, hE12.get, hE13.get, hE14.get, hE15.get, hE16.get]
end Go.Proofs.YtcdnlghlbljopaaDoor.Amu.LPutText
