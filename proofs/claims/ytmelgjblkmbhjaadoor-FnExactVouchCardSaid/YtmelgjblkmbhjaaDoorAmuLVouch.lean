/- The exact law on Vouch, reckoned. -/
import Derived.Test.YtmelgjblkmbhjaaDoorAmuVspec
import Derived.Test.YtmelgjblkmbhjaaDoorAmuLawA
namespace Go.Proofs.YtmelgjblkmbhjaaDoor.Amu.LVouch
open Go Go.AM Go.Proofs
set_option linter.unusedVariables false
set_option linter.unusedSimpArgs false
theorem ty3 : tKind Tryd.prog 3 = some (.int .i64) ∧ tSize Tryd.prog 3 = some 1 ∧ tAgg Tryd.prog 3 = some false ∧ tZero Tryd.prog 3 = some (.int .i64 0) := ⟨by kernel_rfl, by kernel_rfl, by kernel_rfl, by kernel_rfl⟩
theorem ty4 : tKind Tryd.prog 4 = some (.bool) ∧ tSize Tryd.prog 4 = some 1 ∧ tAgg Tryd.prog 4 = some false ∧ tZero Tryd.prog 4 = some (.bool false) := ⟨by kernel_rfl, by kernel_rfl, by kernel_rfl, by kernel_rfl⟩
theorem ty9 : tKind Tryd.prog 9 = some (.str) ∧ tSize Tryd.prog 9 = some 1 ∧ tAgg Tryd.prog 9 = some false ∧ tZero Tryd.prog 9 = some (.string ByteArray.empty) := ⟨by kernel_rfl, by kernel_rfl, by kernel_rfl, by kernel_rfl⟩
theorem ty24 : tKind Tryd.prog 24 = some (.struct) ∧ tSize Tryd.prog 24 = some 1 ∧ tAgg Tryd.prog 24 = some true ∧ tZero Tryd.prog 24 = some (.agg #[.slice none 0 0]) ∧ tField Tryd.prog 24 0 = some (0, 22) ∧ tPlaces Tryd.prog 24 = some [(0, 1)] := ⟨by kernel_rfl, by kernel_rfl, by kernel_rfl, by kernel_rfl, by kernel_rfl, by kernel_rfl⟩
theorem ty29 : tKind Tryd.prog 29 = some (.struct) ∧ tSize Tryd.prog 29 = some 1 ∧ tAgg Tryd.prog 29 = some true ∧ tZero Tryd.prog 29 = some (.agg #[.slice none 0 0]) ∧ tField Tryd.prog 29 0 = some (0, 27) ∧ tPlaces Tryd.prog 29 = some [(0, 1)] := ⟨by kernel_rfl, by kernel_rfl, by kernel_rfl, by kernel_rfl, by kernel_rfl, by kernel_rfl⟩
theorem ty43 : tKind Tryd.prog 43 = some (.slice) ∧ tSize Tryd.prog 43 = some 1 ∧ tAgg Tryd.prog 43 = some false ∧ tZero Tryd.prog 43 = some (.slice none 0 0) ∧ tElem Tryd.prog 43 = some 9 ∧ tElemSize Tryd.prog 43 = some 1 ∧ tBytes Tryd.prog 43 = false := ⟨by kernel_rfl, by kernel_rfl, by kernel_rfl, by kernel_rfl, by kernel_rfl, by kernel_rfl, by kernel_rfl⟩
theorem ty44 : tKind Tryd.prog 44 = some (.slice) ∧ tSize Tryd.prog 44 = some 1 ∧ tAgg Tryd.prog 44 = some false ∧ tZero Tryd.prog 44 = some (.slice none 0 0) ∧ tElem Tryd.prog 44 = some 81 ∧ tElemSize Tryd.prog 44 = some 3 ∧ tBytes Tryd.prog 44 = false := ⟨by kernel_rfl, by kernel_rfl, by kernel_rfl, by kernel_rfl, by kernel_rfl, by kernel_rfl, by kernel_rfl⟩
theorem ty46 : tKind Tryd.prog 46 = some (.struct) ∧ tSize Tryd.prog 46 = some 3 ∧ tAgg Tryd.prog 46 = some true ∧ tZero Tryd.prog 46 = some (.agg #[.int .i64 0, .slice none 0 0, .slice none 0 0]) ∧ tField Tryd.prog 46 0 = some (0, 3) ∧ tField Tryd.prog 46 1 = some (1, 43) ∧ tField Tryd.prog 46 2 = some (2, 44) ∧ tPlaces Tryd.prog 46 = some [(0, 1), (1, 1), (2, 1)] := ⟨by kernel_rfl, by kernel_rfl, by kernel_rfl, by kernel_rfl, by kernel_rfl, by kernel_rfl, by kernel_rfl, by kernel_rfl⟩
theorem ty49 : tKind Tryd.prog 49 = some (.slice) ∧ tSize Tryd.prog 49 = some 1 ∧ tAgg Tryd.prog 49 = some false ∧ tZero Tryd.prog 49 = some (.slice none 0 0) ∧ tElem Tryd.prog 49 = some 86 ∧ tElemSize Tryd.prog 49 = some 3 ∧ tBytes Tryd.prog 49 = false := ⟨by kernel_rfl, by kernel_rfl, by kernel_rfl, by kernel_rfl, by kernel_rfl, by kernel_rfl, by kernel_rfl⟩
theorem ty51 : tKind Tryd.prog 51 = some (.struct) ∧ tSize Tryd.prog 51 = some 3 ∧ tAgg Tryd.prog 51 = some true ∧ tZero Tryd.prog 51 = some (.agg #[.int .i64 0, .slice none 0 0, .slice none 0 0]) ∧ tField Tryd.prog 51 0 = some (0, 3) ∧ tField Tryd.prog 51 1 = some (1, 43) ∧ tField Tryd.prog 51 2 = some (2, 49) ∧ tPlaces Tryd.prog 51 = some [(0, 1), (1, 1), (2, 1)] := ⟨by kernel_rfl, by kernel_rfl, by kernel_rfl, by kernel_rfl, by kernel_rfl, by kernel_rfl, by kernel_rfl, by kernel_rfl⟩
theorem ty79 : tKind Tryd.prog 79 = some (.slice) ∧ tSize Tryd.prog 79 = some 1 ∧ tAgg Tryd.prog 79 = some false ∧ tZero Tryd.prog 79 = some (.slice none 0 0) ∧ tElem Tryd.prog 79 = some 246 ∧ tElemSize Tryd.prog 79 = some 3 ∧ tBytes Tryd.prog 79 = false := ⟨by kernel_rfl, by kernel_rfl, by kernel_rfl, by kernel_rfl, by kernel_rfl, by kernel_rfl, by kernel_rfl⟩
theorem ty81 : tKind Tryd.prog 81 = some (.struct) ∧ tSize Tryd.prog 81 = some 3 ∧ tAgg Tryd.prog 81 = some true ∧ tZero Tryd.prog 81 = some (.agg #[.slice none 0 0, .slice none 0 0, .string ByteArray.empty]) ∧ tField Tryd.prog 81 0 = some (0, 24) ∧ tField Tryd.prog 81 1 = some (1, 79) ∧ tField Tryd.prog 81 2 = some (2, 9) ∧ tPlaces Tryd.prog 81 = some [(0, 1), (1, 1), (2, 1)] := ⟨by kernel_rfl, by kernel_rfl, by kernel_rfl, by kernel_rfl, by kernel_rfl, by kernel_rfl, by kernel_rfl, by kernel_rfl⟩
theorem ty84 : tKind Tryd.prog 84 = some (.slice) ∧ tSize Tryd.prog 84 = some 1 ∧ tAgg Tryd.prog 84 = some false ∧ tZero Tryd.prog 84 = some (.slice none 0 0) ∧ tElem Tryd.prog 84 = some 140 ∧ tElemSize Tryd.prog 84 = some 3 ∧ tBytes Tryd.prog 84 = false := ⟨by kernel_rfl, by kernel_rfl, by kernel_rfl, by kernel_rfl, by kernel_rfl, by kernel_rfl, by kernel_rfl⟩
theorem ty86 : tKind Tryd.prog 86 = some (.struct) ∧ tSize Tryd.prog 86 = some 3 ∧ tAgg Tryd.prog 86 = some true ∧ tZero Tryd.prog 86 = some (.agg #[.slice none 0 0, .slice none 0 0, .string ByteArray.empty]) ∧ tField Tryd.prog 86 0 = some (0, 29) ∧ tField Tryd.prog 86 1 = some (1, 84) ∧ tField Tryd.prog 86 2 = some (2, 9) ∧ tPlaces Tryd.prog 86 = some [(0, 1), (1, 1), (2, 1)] := ⟨by kernel_rfl, by kernel_rfl, by kernel_rfl, by kernel_rfl, by kernel_rfl, by kernel_rfl, by kernel_rfl, by kernel_rfl⟩

variable {ro : Nat} {X : FuncId → List Value → AH → ARes → AH → Prop}
set_option maxRecDepth 10000
theorem law_a (A : AH) (hro : ro ≤ A.size) (hT : Tab 0 A) (hP : Pow 1 A) (x0 : TStore) (c0 : List Value) (F0 : List Nat) (h0 : Dat.rep A x0 c0 F0) (b0 : Mk.bd x0) (x1 : TRecord) (c1 : List Value) (F1 : List Nat) (h1 : Dat.rep A x1 c1 F1) (b1 : Mk.bd x1) :
    ACalls Tryd.prog ro X 9 [.agg c0.toArray, .agg c1.toArray] A (fun r _ => r = .ret (.bool true)) := by
  refine ACalls.enterQ (rs := [.tmp 4]) Tryd.func9 rfl (by kernel_rfl) rfl ?_
  have hh0 := h0
  obtain ⟨w0k1, w0k2, _, _, rfl, _, _, _⟩ := rep_Store.1 hh0
  have hh1 := h1
  obtain ⟨w1k1, w1k2, _, _, rfl, _, _, _, _⟩ := rep_Record.1 hh1
  simp (maxSteps := 2000000) (disch := first | omega | (simp only [AH.size_new, AH.size_put] <;> omega) | fail) only [amR Tryd.prog ro X, amS, seval, reduceCtorEq, ty3, ty4, ty9, ty24, ty29, ty43, ty44, ty46, ty49, ty51, ty79, ty81, ty84, ty86]
  refine (Law.sz_Store _ (by first | omega | (simp only [AH.size_new, AH.size_put] <;> omega)) x0 _ _ (Dat.ext h0 (by ((repeat' (first | exact Ext.refl _ | assumption | refine Ext.trans ?_ (Ext.new _ _) | refine Ext.put ?_ ?_ _ | refine Ext.trans ?_ (by assumption))) <;> (first | omega | (simp only [AH.size_new, AH.size_put] <;> omega))))) b0 (1048576) (by omega)).mono ?_
  rintro r B1 ⟨rfl, hE1⟩
  have v1 := hE1.size
  try simp only [AH.size_new, AH.size_put] at v1
  by_cases z0 : 1048576 - (Mk.sz x0 : Nat) < (0 : Int)
  · rw [szR_neg z0]
    simp (maxSteps := 2000000) (disch := first | omega | (simp only [AH.size_new, AH.size_put] <;> omega) | fail) only [amR Tryd.prog ro X, amS, seval, reduceCtorEq, ty3, ty4, ty9, ty24, ty29, ty43, ty44, ty46, ty49, ty51, ty79, ty81, ty84, ty86, hE1.get]
  rw [szR_pos z0]
  simp (maxSteps := 2000000) (disch := first | omega | (simp only [AH.size_new, AH.size_put] <;> omega) | fail) only [amR Tryd.prog ro X, amS, seval, reduceCtorEq, ty3, ty4, ty9, ty24, ty29, ty43, ty44, ty46, ty49, ty51, ty79, ty81, ty84, ty86, hE1.get, z0]
  refine (Law.sz_Record _ (by first | omega | (simp only [AH.size_new, AH.size_put] <;> omega)) x1 _ _ (Dat.ext h1 (by ((repeat' (first | exact Ext.refl _ | assumption | refine Ext.trans ?_ (Ext.new _ _) | refine Ext.put ?_ ?_ _ | refine Ext.trans ?_ (by assumption))) <;> (first | omega | (simp only [AH.size_new, AH.size_put] <;> omega))))) b1 (1048576 - (Mk.sz x0 : Nat)) (by omega)).mono ?_
  rintro r B2 ⟨rfl, hE2⟩
  have v2 := hE2.size
  try simp only [AH.size_new, AH.size_put] at v2
  by_cases z1 : 1048576 - (Mk.sz x0 : Nat) - (Mk.sz x1 : Nat) < (0 : Int)
  · rw [szR_neg z1]
    simp (maxSteps := 2000000) (disch := first | omega | (simp only [AH.size_new, AH.size_put] <;> omega) | fail) only [amR Tryd.prog ro X, amS, seval, reduceCtorEq, ty3, ty4, ty9, ty24, ty29, ty43, ty44, ty46, ty49, ty51, ty79, ty81, ty84, ty86, hE1.get, hE2.get]
  rw [szR_pos z1]
  simp (maxSteps := 2000000) (disch := first | omega | (simp only [AH.size_new, AH.size_put] <;> omega) | fail) only [amR Tryd.prog ro X, amS, seval, reduceCtorEq, ty3, ty4, ty9, ty24, ty29, ty43, ty44, ty46, ty49, ty51, ty79, ty81, ty84, ty86, hE1.get, hE2.get, z1]
  refine Wp.runG [1] (by kernel_rfl) (.inr (by intro v e A h; simp only [amK, amQ, thenQ, blockQ, endQ, reduceCtorEq, false_and, exists_false] at h)) ?_
  simp (maxSteps := 2000000) (disch := first | omega | (simp only [AH.size_new, AH.size_put] <;> omega) | fail) only [amR Tryd.prog ro X, amS, seval, reduceCtorEq, ty3, ty4, ty9, ty24, ty29, ty43, ty44, ty46, ty49, ty51, ty79, ty81, ty84, ty86, hE1.get, hE2.get]
  refine (Law.to_Store _ (by first | omega | (simp only [AH.size_new, AH.size_put] <;> omega)) x0 _ _ (Dat.ext h0 (by ((repeat' (first | exact Ext.refl _ | assumption | refine Ext.trans ?_ (Ext.new _ _) | refine Ext.put ?_ ?_ _ | refine Ext.trans ?_ (by assumption))) <;> (first | omega | (simp only [AH.size_new, AH.size_put] <;> omega))))) (by omega)).mono ?_
  rintro r B3 ⟨cc, H0w, rfl, qq, f0w, hE3⟩
  obtain ⟨t0k1w, t0k2w, G0k1w, G0k2w, rfl, hH0w, q0k1w, q0k2w⟩ := rep_Store.1 qq
  have v3 := hE3.size
  try simp only [AH.size_new, AH.size_put] at v3
  simp (maxSteps := 2000000) (disch := first | omega | (simp only [AH.size_new, AH.size_put] <;> omega) | fail) only [amR Tryd.prog ro X, amS, seval, reduceCtorEq, ty3, ty4, ty9, ty24, ty29, ty43, ty44, ty46, ty49, ty51, ty79, ty81, ty84, ty86, hE1.get, hE2.get]
  refine ⟨fun b hb => hE3.get b hb, ?_⟩
  try simp (maxSteps := 2000000) (disch := first | omega | (simp only [AH.size_new, AH.size_put] <;> omega) | fail) only [amR Tryd.prog ro X, amS, seval, reduceCtorEq, ty3, ty4, ty9, ty24, ty29, ty43, ty44, ty46, ty49, ty51, ty79, ty81, ty84, ty86, hE1.get, hE2.get, hE3.get]
  refine (Law.to_Record _ (by first | omega | (simp only [AH.size_new, AH.size_put] <;> omega)) x1 _ _ (Dat.ext h1 (by ((repeat' (first | exact Ext.refl _ | assumption | refine Ext.trans ?_ (Ext.new _ _) | refine Ext.put ?_ ?_ _ | refine Ext.trans ?_ (by assumption))) <;> (first | omega | (simp only [AH.size_new, AH.size_put] <;> omega))))) (by omega)).mono ?_
  rintro r B4 ⟨cc, H1w, rfl, qq, f1w, hE4⟩
  obtain ⟨t1k1w, t1k2w, G1k1w, G1k2w, rfl, hH1w, q1k1w, q1k2w, y1k1w⟩ := rep_Record.1 qq
  have u1k1w := big_lt y1k1w
  have v4 := hE4.size
  try simp only [AH.size_new, AH.size_put] at v4
  simp (maxSteps := 2000000) (disch := first | omega | (simp only [AH.size_new, AH.size_put] <;> omega) | fail) only [amR Tryd.prog ro X, amS, seval, reduceCtorEq, ty3, ty4, ty9, ty24, ty29, ty43, ty44, ty46, ty49, ty51, ty79, ty81, ty84, ty86, hE1.get, hE2.get, hE3.get, hE4.get]
  refine (Vspec.specVouch_a _ (by first | omega | (simp only [AH.size_new, AH.size_put] <;> omega)) t0k1w t0k2w x0 _ _ (q0k1w.ext (by ((repeat' (first | exact Ext.refl _ | assumption | refine Ext.trans ?_ (Ext.new _ _) | refine Ext.put ?_ ?_ _ | refine Ext.trans ?_ (by assumption))) <;> (first | omega | (simp only [AH.size_new, AH.size_put] <;> omega))))) (q0k2w.ext (by ((repeat' (first | exact Ext.refl _ | assumption | refine Ext.trans ?_ (Ext.new _ _) | refine Ext.put ?_ ?_ _ | refine Ext.trans ?_ (by assumption))) <;> (first | omega | (simp only [AH.size_new, AH.size_put] <;> omega))))) (fun r hr => (b0.2.2.2 r hr).1.1) t1k1w t1k2w x1 _ _ (q1k1w.ext (by ((repeat' (first | exact Ext.refl _ | assumption | refine Ext.trans ?_ (Ext.new _ _) | refine Ext.put ?_ ?_ _ | refine Ext.trans ?_ (by assumption))) <;> (first | omega | (simp only [AH.size_new, AH.size_put] <;> omega))))) (q1k2w.ext (by ((repeat' (first | exact Ext.refl _ | assumption | refine Ext.trans ?_ (Ext.new _ _) | refine Ext.put ?_ ?_ _ | refine Ext.trans ?_ (by assumption))) <;> (first | omega | (simp only [AH.size_new, AH.size_put] <;> omega))))) b1.1.1 u1k1w).mono ?_
  rintro r B5 ⟨rfl, hE5⟩
  have v5 := hE5.size
  try simp only [AH.size_new, AH.size_put] at v5
  simp (maxSteps := 2000000) (disch := first | omega | (simp only [AH.size_new, AH.size_put] <;> omega) | fail) only [amR Tryd.prog ro X, amS, seval, reduceCtorEq, ty3, ty4, ty9, ty24, ty29, ty43, ty44, ty46, ty49, ty51, ty79, ty81, ty84, ty86, hE1.get, hE2.get, hE3.get, hE4.get, hE5.get]
  refine (Law.to_Store _ (by first | omega | (simp only [AH.size_new, AH.size_put] <;> omega)) x0 _ _ (Dat.ext h0 (by ((repeat' (first | exact Ext.refl _ | assumption | refine Ext.trans ?_ (Ext.new _ _) | refine Ext.put ?_ ?_ _ | refine Ext.trans ?_ (by assumption))) <;> (first | omega | (simp only [AH.size_new, AH.size_put] <;> omega))))) (by omega)).mono ?_
  rintro r B6 ⟨cc, H0x, rfl, qq, f0x, hE6⟩
  obtain ⟨t0k1x, t0k2x, G0k1x, G0k2x, rfl, hH0x, q0k1x, q0k2x⟩ := rep_Store.1 qq
  have v6 := hE6.size
  try simp only [AH.size_new, AH.size_put] at v6
  simp (maxSteps := 2000000) (disch := first | omega | (simp only [AH.size_new, AH.size_put] <;> omega) | fail) only [amR Tryd.prog ro X, amS, seval, reduceCtorEq, ty3, ty4, ty9, ty24, ty29, ty43, ty44, ty46, ty49, ty51, ty79, ty81, ty84, ty86, hE1.get, hE2.get, hE3.get, hE4.get, hE5.get, hE6.get]
  refine (Law.to_Record _ (by first | omega | (simp only [AH.size_new, AH.size_put] <;> omega)) x1 _ _ (Dat.ext h1 (by ((repeat' (first | exact Ext.refl _ | assumption | refine Ext.trans ?_ (Ext.new _ _) | refine Ext.put ?_ ?_ _ | refine Ext.trans ?_ (by assumption))) <;> (first | omega | (simp only [AH.size_new, AH.size_put] <;> omega))))) (by omega)).mono ?_
  rintro r B7 ⟨cc, H1x, rfl, qq, f1x, hE7⟩
  obtain ⟨t1k1x, t1k2x, G1k1x, G1k2x, rfl, hH1x, q1k1x, q1k2x, y1k1x⟩ := rep_Record.1 qq
  have u1k1x := big_lt y1k1x
  have v7 := hE7.size
  try simp only [AH.size_new, AH.size_put] at v7
  simp (maxSteps := 2000000) (disch := first | omega | (simp only [AH.size_new, AH.size_put] <;> omega) | fail) only [amR Tryd.prog ro X, amS, seval, reduceCtorEq, ty3, ty4, ty9, ty24, ty29, ty43, ty44, ty46, ty49, ty51, ty79, ty81, ty84, ty86, hE1.get, hE2.get, hE3.get, hE4.get, hE5.get, hE6.get, hE7.get]
  refine (Vspec.implVouch_a _ (by first | omega | (simp only [AH.size_new, AH.size_put] <;> omega)) (hT.ext (by ((repeat' (first | exact Ext.refl _ | assumption | refine Ext.trans ?_ (Ext.new _ _) | refine Ext.put ?_ ?_ _ | refine Ext.trans ?_ (by assumption))) <;> (first | omega | (simp only [AH.size_new, AH.size_put] <;> omega))))) (hP.ext (by ((repeat' (first | exact Ext.refl _ | assumption | refine Ext.trans ?_ (Ext.new _ _) | refine Ext.put ?_ ?_ _ | refine Ext.trans ?_ (by assumption))) <;> (first | omega | (simp only [AH.size_new, AH.size_put] <;> omega))))) t0k1x t0k2x x0 _ _ (q0k1x.ext (by ((repeat' (first | exact Ext.refl _ | assumption | refine Ext.trans ?_ (Ext.new _ _) | refine Ext.put ?_ ?_ _ | refine Ext.trans ?_ (by assumption))) <;> (first | omega | (simp only [AH.size_new, AH.size_put] <;> omega))))) (q0k2x.ext (by ((repeat' (first | exact Ext.refl _ | assumption | refine Ext.trans ?_ (Ext.new _ _) | refine Ext.put ?_ ?_ _ | refine Ext.trans ?_ (by assumption))) <;> (first | omega | (simp only [AH.size_new, AH.size_put] <;> omega))))) (fun r hr => (b0.2.2.2 r hr).1.1) t1k1x t1k2x x1 _ _ (q1k1x.ext (by ((repeat' (first | exact Ext.refl _ | assumption | refine Ext.trans ?_ (Ext.new _ _) | refine Ext.put ?_ ?_ _ | refine Ext.trans ?_ (by assumption))) <;> (first | omega | (simp only [AH.size_new, AH.size_put] <;> omega))))) (q1k2x.ext (by ((repeat' (first | exact Ext.refl _ | assumption | refine Ext.trans ?_ (Ext.new _ _) | refine Ext.put ?_ ?_ _ | refine Ext.trans ?_ (by assumption))) <;> (first | omega | (simp only [AH.size_new, AH.size_put] <;> omega))))) b1.1.1 u1k1x).mono ?_
  rintro r B8 ⟨rfl, hE8⟩
  have v8 := hE8.size
  try simp only [AH.size_new, AH.size_put] at v8
  simp (maxSteps := 2000000) (disch := first | omega | (simp only [AH.size_new, AH.size_put] <;> omega) | fail) only [amR Tryd.prog ro X, amS, seval, reduceCtorEq, ty3, ty4, ty9, ty24, ty29, ty43, ty44, ty46, ty49, ty51, ty79, ty81, ty84, ty86, hE1.get, hE2.get, hE3.get, hE4.get, hE5.get, hE6.get, hE7.get, hE8.get]
  refine Wp.runG [2] (by kernel_rfl) (.inl (by kernel_rfl)) ?_
  simp (maxSteps := 2000000) (disch := first | omega | (simp only [AH.size_new, AH.size_put] <;> omega) | fail) only [amR Tryd.prog ro X, amS, seval, reduceCtorEq, ty3, ty4, ty9, ty24, ty29, ty43, ty44, ty46, ty49, ty51, ty79, ty81, ty84, ty86, hE1.get, hE2.get, hE3.get, hE4.get, hE5.get, hE6.get, hE7.get, hE8.get]
  refine (Law.to_Store _ (by first | omega | (simp only [AH.size_new, AH.size_put] <;> omega)) x0 _ _ (Dat.ext h0 (by ((repeat' (first | exact Ext.refl _ | assumption | refine Ext.trans ?_ (Ext.new _ _) | refine Ext.put ?_ ?_ _ | refine Ext.trans ?_ (by assumption))) <;> (first | omega | (simp only [AH.size_new, AH.size_put] <;> omega))))) (by omega)).mono ?_
  rintro r B9 ⟨cc, H0y, rfl, qq, f0y, hE9⟩
  obtain ⟨t0k1y, t0k2y, G0k1y, G0k2y, rfl, hH0y, q0k1y, q0k2y⟩ := rep_Store.1 qq
  have v9 := hE9.size
  try simp only [AH.size_new, AH.size_put] at v9
  simp (maxSteps := 2000000) (disch := first | omega | (simp only [AH.size_new, AH.size_put] <;> omega) | fail) only [amR Tryd.prog ro X, amS, seval, reduceCtorEq, ty3, ty4, ty9, ty24, ty29, ty43, ty44, ty46, ty49, ty51, ty79, ty81, ty84, ty86, hE1.get, hE2.get, hE3.get, hE4.get, hE5.get, hE6.get, hE7.get, hE8.get]
  refine ⟨fun b hb => hE9.get b hb, ?_⟩
  try simp (maxSteps := 2000000) (disch := first | omega | (simp only [AH.size_new, AH.size_put] <;> omega) | fail) only [amR Tryd.prog ro X, amS, seval, reduceCtorEq, ty3, ty4, ty9, ty24, ty29, ty43, ty44, ty46, ty49, ty51, ty79, ty81, ty84, ty86, hE1.get, hE2.get, hE3.get, hE4.get, hE5.get, hE6.get, hE7.get, hE8.get, hE9.get]
  refine (Law.eq_Store _ (by first | omega | (simp only [AH.size_new, AH.size_put] <;> omega)) x0 x0 _ _ _ _ (rep_Store.2 ⟨t0k1x, t0k2x, _, _, rfl, rfl, q0k1x.ext (by ((repeat' (first | exact Ext.refl _ | assumption | refine Ext.trans ?_ (Ext.new _ _) | refine Ext.put ?_ ?_ _ | refine Ext.trans ?_ (by assumption))) <;> (first | omega | (simp only [AH.size_new, AH.size_put] <;> omega)))), q0k2x.ext (by ((repeat' (first | exact Ext.refl _ | assumption | refine Ext.trans ?_ (Ext.new _ _) | refine Ext.put ?_ ?_ _ | refine Ext.trans ?_ (by assumption))) <;> (first | omega | (simp only [AH.size_new, AH.size_put] <;> omega))))⟩) (rep_Store.2 ⟨t0k1y, t0k2y, _, _, rfl, rfl, q0k1y.ext (by ((repeat' (first | exact Ext.refl _ | assumption | refine Ext.trans ?_ (Ext.new _ _) | refine Ext.put ?_ ?_ _ | refine Ext.trans ?_ (by assumption))) <;> (first | omega | (simp only [AH.size_new, AH.size_put] <;> omega)))), q0k2y.ext (by ((repeat' (first | exact Ext.refl _ | assumption | refine Ext.trans ?_ (Ext.new _ _) | refine Ext.put ?_ ?_ _ | refine Ext.trans ?_ (by assumption))) <;> (first | omega | (simp only [AH.size_new, AH.size_put] <;> omega))))⟩) (by omega)).mono ?_
  rintro r B10 ⟨rfl, hE10⟩
  have v10 := hE10.size
  try simp only [AH.size_new, AH.size_put] at v10
  simp (maxSteps := 2000000) (disch := first | omega | (simp only [AH.size_new, AH.size_put] <;> omega) | fail) only [amR Tryd.prog ro X, amS, seval, reduceCtorEq, ty3, ty4, ty9, ty24, ty29, ty43, ty44, ty46, ty49, ty51, ty79, ty81, ty84, ty86, hE1.get, hE2.get, hE3.get, hE4.get, hE5.get, hE6.get, hE7.get, hE8.get, hE9.get, hE10.get]
  refine Wp.runG [2] (by kernel_rfl) (.inl (by kernel_rfl)) ?_
  simp (maxSteps := 2000000) (disch := first | omega | (simp only [AH.size_new, AH.size_put] <;> omega) | fail) only [amR Tryd.prog ro X, amS, seval, reduceCtorEq, ty3, ty4, ty9, ty24, ty29, ty43, ty44, ty46, ty49, ty51, ty79, ty81, ty84, ty86, hE1.get, hE2.get, hE3.get, hE4.get, hE5.get, hE6.get, hE7.get, hE8.get, hE9.get, hE10.get]
  refine (Law.to_Record _ (by first | omega | (simp only [AH.size_new, AH.size_put] <;> omega)) x1 _ _ (Dat.ext h1 (by ((repeat' (first | exact Ext.refl _ | assumption | refine Ext.trans ?_ (Ext.new _ _) | refine Ext.put ?_ ?_ _ | refine Ext.trans ?_ (by assumption))) <;> (first | omega | (simp only [AH.size_new, AH.size_put] <;> omega))))) (by omega)).mono ?_
  rintro r B11 ⟨cc, H1y, rfl, qq, f1y, hE11⟩
  obtain ⟨t1k1y, t1k2y, G1k1y, G1k2y, rfl, hH1y, q1k1y, q1k2y, y1k1y⟩ := rep_Record.1 qq
  have u1k1y := big_lt y1k1y
  have v11 := hE11.size
  try simp only [AH.size_new, AH.size_put] at v11
  simp (maxSteps := 2000000) (disch := first | omega | (simp only [AH.size_new, AH.size_put] <;> omega) | fail) only [amR Tryd.prog ro X, amS, seval, reduceCtorEq, ty3, ty4, ty9, ty24, ty29, ty43, ty44, ty46, ty49, ty51, ty79, ty81, ty84, ty86, hE1.get, hE2.get, hE3.get, hE4.get, hE5.get, hE6.get, hE7.get, hE8.get, hE9.get, hE10.get]
  refine ⟨fun b hb => hE11.get b hb, ?_⟩
  try simp (maxSteps := 2000000) (disch := first | omega | (simp only [AH.size_new, AH.size_put] <;> omega) | fail) only [amR Tryd.prog ro X, amS, seval, reduceCtorEq, ty3, ty4, ty9, ty24, ty29, ty43, ty44, ty46, ty49, ty51, ty79, ty81, ty84, ty86, hE1.get, hE2.get, hE3.get, hE4.get, hE5.get, hE6.get, hE7.get, hE8.get, hE9.get, hE10.get, hE11.get]
  refine (Law.eq_Record _ (by first | omega | (simp only [AH.size_new, AH.size_put] <;> omega)) x1 x1 _ _ _ _ (rep_Record.2 ⟨t1k1x, t1k2x, _, _, rfl, rfl, q1k1x.ext (by ((repeat' (first | exact Ext.refl _ | assumption | refine Ext.trans ?_ (Ext.new _ _) | refine Ext.put ?_ ?_ _ | refine Ext.trans ?_ (by assumption))) <;> (first | omega | (simp only [AH.size_new, AH.size_put] <;> omega)))), q1k2x.ext (by ((repeat' (first | exact Ext.refl _ | assumption | refine Ext.trans ?_ (Ext.new _ _) | refine Ext.put ?_ ?_ _ | refine Ext.trans ?_ (by assumption))) <;> (first | omega | (simp only [AH.size_new, AH.size_put] <;> omega)))), y1k1x⟩) (rep_Record.2 ⟨t1k1y, t1k2y, _, _, rfl, rfl, q1k1y.ext (by ((repeat' (first | exact Ext.refl _ | assumption | refine Ext.trans ?_ (Ext.new _ _) | refine Ext.put ?_ ?_ _ | refine Ext.trans ?_ (by assumption))) <;> (first | omega | (simp only [AH.size_new, AH.size_put] <;> omega)))), q1k2y.ext (by ((repeat' (first | exact Ext.refl _ | assumption | refine Ext.trans ?_ (Ext.new _ _) | refine Ext.put ?_ ?_ _ | refine Ext.trans ?_ (by assumption))) <;> (first | omega | (simp only [AH.size_new, AH.size_put] <;> omega)))), y1k1y⟩) (by omega)).mono ?_
  rintro r B12 ⟨rfl, hE12⟩
  have v12 := hE12.size
  try simp only [AH.size_new, AH.size_put] at v12
  simp (maxSteps := 2000000) (disch := first | omega | (simp only [AH.size_new, AH.size_put] <;> omega) | fail) only [amR Tryd.prog ro X, amS, seval, reduceCtorEq, ty3, ty4, ty9, ty24, ty29, ty43, ty44, ty46, ty49, ty51, ty79, ty81, ty84, ty86, hE1.get, hE2.get, hE3.get, hE4.get, hE5.get, hE6.get, hE7.get, hE8.get, hE9.get, hE10.get, hE11.get, hE12.get]
end Go.Proofs.YtmelgjblkmbhjaaDoor.Amu.LVouch
