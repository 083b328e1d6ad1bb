/- The exact law on Note, reckoned. -/
import Derived.Test.YtcdnlghlbljopaaDoorAmuNote
import Derived.Test.YtcdnlghlbljopaaDoorAmuLawA
import Derived.Test.YtcdnlghlbljopaaDoorAmuLawB
namespace Go.Proofs.YtcdnlghlbljopaaDoor.Amu.LNote
open Go Go.AM Go.Proofs
set_option linter.unusedVariables false
set_option linter.unusedSimpArgs false
set_option maxHeartbeats 4000000
theorem ty3 : tKind Tryd.prog 3 = some (.int .i64) ∧ tSize Tryd.prog 3 = some 1 ∧ tAgg Tryd.prog 3 = some false ∧ tZero Tryd.prog 3 = some (.int .i64 0) := ⟨by kernel_rfl, by kernel_rfl, by kernel_rfl, by kernel_rfl⟩
theorem ty4 : tKind Tryd.prog 4 = some (.bool) ∧ tSize Tryd.prog 4 = some 1 ∧ tAgg Tryd.prog 4 = some false ∧ tZero Tryd.prog 4 = some (.bool false) := ⟨by kernel_rfl, by kernel_rfl, by kernel_rfl, by kernel_rfl⟩
theorem ty9 : tKind Tryd.prog 9 = some (.str) ∧ tSize Tryd.prog 9 = some 1 ∧ tAgg Tryd.prog 9 = some false ∧ tZero Tryd.prog 9 = some (.string ByteArray.empty) := ⟨by kernel_rfl, by kernel_rfl, by kernel_rfl, by kernel_rfl⟩
theorem ty22 : tKind Tryd.prog 22 = some (.slice) ∧ tSize Tryd.prog 22 = some 1 ∧ tAgg Tryd.prog 22 = some false ∧ tZero Tryd.prog 22 = some (.slice none 0 0) ∧ tElem Tryd.prog 22 = some 187 ∧ tElemSize Tryd.prog 22 = some 3 ∧ tBytes Tryd.prog 22 = false := ⟨by kernel_rfl, by kernel_rfl, by kernel_rfl, by kernel_rfl, by kernel_rfl, by kernel_rfl, by kernel_rfl⟩
theorem ty24 : tKind Tryd.prog 24 = some (.struct) ∧ tSize Tryd.prog 24 = some 1 ∧ tAgg Tryd.prog 24 = some true ∧ tZero Tryd.prog 24 = some (.agg #[.slice none 0 0]) ∧ tField Tryd.prog 24 0 = some (0, 22) ∧ tPlaces Tryd.prog 24 = some [(0, 1)] := ⟨by kernel_rfl, by kernel_rfl, by kernel_rfl, by kernel_rfl, by kernel_rfl, by kernel_rfl⟩
theorem ty27 : tKind Tryd.prog 27 = some (.slice) ∧ tSize Tryd.prog 27 = some 1 ∧ tAgg Tryd.prog 27 = some false ∧ tZero Tryd.prog 27 = some (.slice none 0 0) ∧ tElem Tryd.prog 27 = some 109 ∧ tElemSize Tryd.prog 27 = some 3 ∧ tBytes Tryd.prog 27 = false := ⟨by kernel_rfl, by kernel_rfl, by kernel_rfl, by kernel_rfl, by kernel_rfl, by kernel_rfl, by kernel_rfl⟩
theorem ty29 : tKind Tryd.prog 29 = some (.struct) ∧ tSize Tryd.prog 29 = some 1 ∧ tAgg Tryd.prog 29 = some true ∧ tZero Tryd.prog 29 = some (.agg #[.slice none 0 0]) ∧ tField Tryd.prog 29 0 = some (0, 27) ∧ tPlaces Tryd.prog 29 = some [(0, 1)] := ⟨by kernel_rfl, by kernel_rfl, by kernel_rfl, by kernel_rfl, by kernel_rfl, by kernel_rfl⟩
theorem ty47 : tKind Tryd.prog 47 = some (.slice) ∧ tSize Tryd.prog 47 = some 1 ∧ tAgg Tryd.prog 47 = some false ∧ tZero Tryd.prog 47 = some (.slice none 0 0) ∧ tElem Tryd.prog 47 = some 9 ∧ tElemSize Tryd.prog 47 = some 1 ∧ tBytes Tryd.prog 47 = false := ⟨by kernel_rfl, by kernel_rfl, by kernel_rfl, by kernel_rfl, by kernel_rfl, by kernel_rfl, by kernel_rfl⟩
theorem ty64 : tKind Tryd.prog 64 = some (.struct) ∧ tSize Tryd.prog 64 = some 3 ∧ tAgg Tryd.prog 64 = some true ∧ tZero Tryd.prog 64 = some (.agg #[.int .i64 0, .string ByteArray.empty, .slice none 0 0]) ∧ tField Tryd.prog 64 0 = some (0, 3) ∧ tField Tryd.prog 64 1 = some (1, 9) ∧ tField Tryd.prog 64 2 = some (2, 47) ∧ tPlaces Tryd.prog 64 = some [(0, 1), (1, 1), (2, 1)] := ⟨by kernel_rfl, by kernel_rfl, by kernel_rfl, by kernel_rfl, by kernel_rfl, by kernel_rfl, by kernel_rfl, by kernel_rfl⟩
theorem ty67 : tKind Tryd.prog 67 = some (.slice) ∧ tSize Tryd.prog 67 = some 1 ∧ tAgg Tryd.prog 67 = some false ∧ tZero Tryd.prog 67 = some (.slice none 0 0) ∧ tElem Tryd.prog 67 = some 153 ∧ tElemSize Tryd.prog 67 = some 3 ∧ tBytes Tryd.prog 67 = false := ⟨by kernel_rfl, by kernel_rfl, by kernel_rfl, by kernel_rfl, by kernel_rfl, by kernel_rfl, by kernel_rfl⟩
theorem ty69 : tKind Tryd.prog 69 = some (.struct) ∧ tSize Tryd.prog 69 = some 3 ∧ tAgg Tryd.prog 69 = some true ∧ tZero Tryd.prog 69 = some (.agg #[.slice none 0 0, .slice none 0 0, .string ByteArray.empty]) ∧ tField Tryd.prog 69 0 = some (0, 29) ∧ tField Tryd.prog 69 1 = some (1, 67) ∧ tField Tryd.prog 69 2 = some (2, 9) ∧ tPlaces Tryd.prog 69 = some [(0, 1), (1, 1), (2, 1)] := ⟨by kernel_rfl, by kernel_rfl, by kernel_rfl, by kernel_rfl, by kernel_rfl, by kernel_rfl, by kernel_rfl, by kernel_rfl⟩
theorem ty73 : tKind Tryd.prog 73 = some (.struct) ∧ tSize Tryd.prog 73 = some 3 ∧ tAgg Tryd.prog 73 = some true ∧ tZero Tryd.prog 73 = some (.agg #[.int .i64 0, .string ByteArray.empty, .slice none 0 0]) ∧ tField Tryd.prog 73 0 = some (0, 3) ∧ tField Tryd.prog 73 1 = some (1, 9) ∧ tField Tryd.prog 73 2 = some (2, 47) ∧ tPlaces Tryd.prog 73 = some [(0, 1), (1, 1), (2, 1)] := ⟨by kernel_rfl, by kernel_rfl, by kernel_rfl, by kernel_rfl, by kernel_rfl, by kernel_rfl, by kernel_rfl, by kernel_rfl⟩

variable {ro : Nat} {X : FuncId → List Value → AH → ARes → AH → Prop}
set_option maxRecDepth 10000
theorem law_a (A : AH) (hro : ro ≤ A.size) (hT : Tab 0 A) (x0 : TProgram) (c0 : List Value) (F0 : List Nat) (h0 : Dat.rep A x0 c0 F0) (b0 : Mk.bd x0) (s1 : Sl) (x1 : List TSeen) (F1 : List Nat) (h1 : SlR A s1 x1 F1) (b1 : Mk.bd x1) (x2 : TResult) (c2 : List Value) (F2 : List Nat) (h2 : Dat.rep A x2 c2 F2) (b2 : Mk.bd x2) (x3 : Int) (hx3 : -9223372036854775808 ≤ x3 ∧ x3 ≤ 9223372036854775807) :
    ACalls Tryd.prog ro X 8 [.agg c0.toArray, s1.v, .agg c2.toArray, .int .i64 x3] A (fun r _ => r = .ret (.bool true)) := by
  refine ACalls.enterQ (rs := [.tmp 8]) Tryd.func8 rfl (by kernel_rfl) rfl ?_
  have hh0 := h0
  obtain ⟨w0k1, _, rfl, _, _⟩ := rep_Program.1 hh0
  have hh2 := h2
  obtain ⟨w2k1, _, rfl, _, _, _⟩ := rep_Result.1 hh2
  simp (maxSteps := 2000000) (disch := first | omega | (simp only [AH.size_new, AH.size_put] <;> omega) | fail) only [amR Tryd.prog ro X, amS, seval, reduceCtorEq, ty3, ty4, ty9, ty22, ty24, ty27, ty29, ty47, ty64, ty67, ty69, ty73]
  refine (Law.sz_Program _ (by first | omega | (simp only [AH.size_new, AH.size_put] <;> omega)) x0 _ _ (Dat.ext h0 (by ((repeat' (first | exact Ext.refl _ | assumption | refine Ext.trans ?_ (Ext.new _ _) | refine Ext.put ?_ ?_ _ | refine Ext.trans ?_ (by assumption))) <;> (first | omega | (simp only [AH.size_new, AH.size_put] <;> omega))))) b0 (1048576) (by omega)).mono ?_
  rintro r B1 ⟨rfl, hE1⟩
  have v1 := hE1.size
  try simp only [AH.size_new, AH.size_put] at v1
  by_cases z0 : 1048576 - (Mk.sz x0 : Nat) < (0 : Int)
  · rw [szR_neg z0]
    simp (maxSteps := 2000000) (disch := first | omega | (simp only [AH.size_new, AH.size_put] <;> omega) | fail) only [amR Tryd.prog ro X, amS, seval, reduceCtorEq, ty3, ty4, ty9, ty22, ty24, ty27, ty29, ty47, ty64, ty67, ty69, ty73, hE1.get]
  rw [szR_pos z0]
  simp (maxSteps := 2000000) (disch := first | omega | (simp only [AH.size_new, AH.size_put] <;> omega) | fail) only [amR Tryd.prog ro X, amS, seval, reduceCtorEq, ty3, ty4, ty9, ty22, ty24, ty27, ty29, ty47, ty64, ty67, ty69, ty73, hE1.get, z0]
  refine (Law.szL_Seen _ (by first | omega | (simp only [AH.size_new, AH.size_put] <;> omega)) s1 x1 _ (h1.ext (by ((repeat' (first | exact Ext.refl _ | assumption | refine Ext.trans ?_ (Ext.new _ _) | refine Ext.put ?_ ?_ _ | refine Ext.trans ?_ (by assumption))) <;> (first | omega | (simp only [AH.size_new, AH.size_put] <;> omega))))) b1 (1048576 - (Mk.sz x0 : Nat)) (by omega)).mono ?_
  rintro r B2 ⟨rfl, hE2⟩
  have v2 := hE2.size
  try simp only [AH.size_new, AH.size_put] at v2
  by_cases z1 : 1048576 - (Mk.sz x0 : Nat) - (szL Mk.sz x1 : Nat) < (0 : Int)
  · rw [szR_neg z1]
    simp (maxSteps := 2000000) (disch := first | omega | (simp only [AH.size_new, AH.size_put] <;> omega) | fail) only [amR Tryd.prog ro X, amS, seval, reduceCtorEq, ty3, ty4, ty9, ty22, ty24, ty27, ty29, ty47, ty64, ty67, ty69, ty73, hE1.get, hE2.get]
  rw [szR_pos z1]
  simp (maxSteps := 2000000) (disch := first | omega | (simp only [AH.size_new, AH.size_put] <;> omega) | fail) only [amR Tryd.prog ro X, amS, seval, reduceCtorEq, ty3, ty4, ty9, ty22, ty24, ty27, ty29, ty47, ty64, ty67, ty69, ty73, hE1.get, hE2.get, z1]
  refine (Law.sz_Result _ (by first | omega | (simp only [AH.size_new, AH.size_put] <;> omega)) x2 _ _ (Dat.ext h2 (by ((repeat' (first | exact Ext.refl _ | assumption | refine Ext.trans ?_ (Ext.new _ _) | refine Ext.put ?_ ?_ _ | refine Ext.trans ?_ (by assumption))) <;> (first | omega | (simp only [AH.size_new, AH.size_put] <;> omega))))) b2 (1048576 - (Mk.sz x0 : Nat) - (szL Mk.sz x1 : Nat)) (by omega)).mono ?_
  rintro r B3 ⟨rfl, hE3⟩
  have v3 := hE3.size
  try simp only [AH.size_new, AH.size_put] at v3
  by_cases z2 : 1048576 - (Mk.sz x0 : Nat) - (szL Mk.sz x1 : Nat) - (Mk.sz x2 : Nat) < (0 : Int)
  · rw [szR_neg z2]
    simp (maxSteps := 2000000) (disch := first | omega | (simp only [AH.size_new, AH.size_put] <;> omega) | fail) only [amR Tryd.prog ro X, amS, seval, reduceCtorEq, ty3, ty4, ty9, ty22, ty24, ty27, ty29, ty47, ty64, ty67, ty69, ty73, hE1.get, hE2.get, hE3.get]
  rw [szR_pos z2]
  simp (maxSteps := 2000000) (disch := first | omega | (simp only [AH.size_new, AH.size_put] <;> omega) | fail) only [amR Tryd.prog ro X, amS, seval, reduceCtorEq, ty3, ty4, ty9, ty22, ty24, ty27, ty29, ty47, ty64, ty67, ty69, ty73, hE1.get, hE2.get, hE3.get, z2]
  have hl0 := szL_length Mk.sz x0
  have hq0 : Mk.sz x0 = szL Mk.sz x0 := rfl
  obtain ⟨y, hy⟩ : ∃ y, y = noteR x0 x1 (formR x2.1 x2.2.1 x2.2.2) x3 := ⟨_, rfl⟩
  have ysz : Mk.sz y < 1073741824 := by
    rw [hy]
    have := noteR_sz x0 x1 (formR x2.1 x2.2.1 x2.2.2) x3
    omega
  have ye1 : Mk.sz y = Mk.sz y.1 + Mk.sz y.2 := rfl
  have ye2 : Mk.sz y.2 = Mk.sz y.2.1 + Mk.sz y.2.2 := rfl
  have yl1 : Mk.sz y.1 = szL Mk.sz y.1 := rfl
  have yn1 := nmL_Ins y.1
  have yl2 : Mk.sz y.2.1 = szL Mk.sz y.2.1 := rfl
  have yn2 := nmL_Seen y.2.1
  have m0l1 : Mk.sz x0 = szL Mk.sz x0 := rfl
  have m0n1 := nmL_Ins x0
  have m1n1 := nmL_Seen x1
  have m2e1 : Mk.sz x2 = Mk.sz x2.1 + Mk.sz x2.2 := rfl
  have m2e2 : Mk.sz x2.2 = Mk.sz x2.2.1 + Mk.sz x2.2.2 := rfl
  have m2l1 : Mk.sz x2.2.2 = szL Mk.sz x2.2.2 := rfl
  have m2n1 := nmL_Str x2.2.2
  refine Wp.runG [1, 3] (by kernel_rfl) (.inr (by intro v e A h; simp only [amK, amQ, thenQ, blockQ, endQ, reduceCtorEq, false_and] at h)) ?_
  simp (maxSteps := 2000000) (disch := first | omega | (simp only [AH.size_new, AH.size_put] <;> omega) | fail) only [amR Tryd.prog ro X, amS, seval, reduceCtorEq, ty3, ty4, ty9, ty22, ty24, ty27, ty29, ty47, ty64, ty67, ty69, ty73, hE1.get, hE2.get, hE3.get]
  refine (Law.to_Program _ (by first | omega | (simp only [AH.size_new, AH.size_put] <;> omega)) x0 _ _ (Dat.ext h0 (by ((repeat' (first | exact Ext.refl _ | assumption | refine Ext.trans ?_ (Ext.new _ _) | refine Ext.put ?_ ?_ _ | refine Ext.trans ?_ (by assumption))) <;> (first | omega | (simp only [AH.size_new, AH.size_put] <;> omega))))) (by omega)).mono ?_
  rintro r B4 ⟨cc, H0w, rfl, qq, f0w, hE4⟩
  obtain ⟨t0k1w, G0k1w, rfl, hH0w, q0k1w⟩ := rep_Program.1 qq
  have v4 := hE4.size
  try simp only [AH.size_new, AH.size_put] at v4
  simp (maxSteps := 2000000) (disch := first | omega | (simp only [AH.size_new, AH.size_put] <;> omega) | fail) only [amR Tryd.prog ro X, amS, seval, reduceCtorEq, ty3, ty4, ty9, ty22, ty24, ty27, ty29, ty47, ty64, ty67, ty69, ty73, hE1.get, hE2.get, hE3.get]
  refine ⟨fun b hb => hE4.get b hb, ?_⟩
  try simp (maxSteps := 2000000) (disch := first | omega | (simp only [AH.size_new, AH.size_put] <;> omega) | fail) only [amR Tryd.prog ro X, amS, seval, reduceCtorEq, ty3, ty4, ty9, ty22, ty24, ty27, ty29, ty47, ty64, ty67, ty69, ty73, hE1.get, hE2.get, hE3.get, hE4.get]
  refine (Law.toL_Seen _ (by first | omega | (simp only [AH.size_new, AH.size_put] <;> omega)) s1 x1 _ (h1.ext (by ((repeat' (first | exact Ext.refl _ | assumption | refine Ext.trans ?_ (Ext.new _ _) | refine Ext.put ?_ ?_ _ | refine Ext.trans ?_ (by assumption))) <;> (first | omega | (simp only [AH.size_new, AH.size_put] <;> omega))))) (by omega)).mono ?_
  rintro r B5 ⟨t1k1w, H1w, rfl, q1k1w, f1w, hE5⟩
  have v5 := hE5.size
  try simp only [AH.size_new, AH.size_put] at v5
  simp (maxSteps := 2000000) (disch := first | omega | (simp only [AH.size_new, AH.size_put] <;> omega) | fail) only [amR Tryd.prog ro X, amS, seval, reduceCtorEq, ty3, ty4, ty9, ty22, ty24, ty27, ty29, ty47, ty64, ty67, ty69, ty73, hE1.get, hE2.get, hE3.get, hE4.get]
  refine ⟨fun b hb => hE5.get b hb, ?_⟩
  try simp (maxSteps := 2000000) (disch := first | omega | (simp only [AH.size_new, AH.size_put] <;> omega) | fail) only [amR Tryd.prog ro X, amS, seval, reduceCtorEq, ty3, ty4, ty9, ty22, ty24, ty27, ty29, ty47, ty64, ty67, ty69, ty73, hE1.get, hE2.get, hE3.get, hE4.get, hE5.get]
  refine (Law.to_Result _ (by first | omega | (simp only [AH.size_new, AH.size_put] <;> omega)) x2 _ _ (Dat.ext h2 (by ((repeat' (first | exact Ext.refl _ | assumption | refine Ext.trans ?_ (Ext.new _ _) | refine Ext.put ?_ ?_ _ | refine Ext.trans ?_ (by assumption))) <;> (first | omega | (simp only [AH.size_new, AH.size_put] <;> omega))))) (by omega)).mono ?_
  rintro r B6 ⟨cc, H2w, rfl, qq, f2w, hE6⟩
  obtain ⟨t2k1w, G2k1w, rfl, hH2w, y2k1w, q2k1w⟩ := rep_Result.1 qq
  have u2k1w := big_lt y2k1w
  have v6 := hE6.size
  try simp only [AH.size_new, AH.size_put] at v6
  simp (maxSteps := 2000000) (disch := first | omega | (simp only [AH.size_new, AH.size_put] <;> omega) | fail) only [amR Tryd.prog ro X, amS, seval, reduceCtorEq, ty3, ty4, ty9, ty22, ty24, ty27, ty29, ty47, ty64, ty67, ty69, ty73, hE1.get, hE2.get, hE3.get, hE4.get, hE5.get, hE6.get]
  refine (Note.spec_a _ (by first | omega | (simp only [AH.size_new, AH.size_put] <;> omega)) t0k1w x0 _ (q0k1w.ext (by ((repeat' (first | exact Ext.refl _ | assumption | refine Ext.trans ?_ (Ext.new _ _) | refine Ext.put ?_ ?_ _ | refine Ext.trans ?_ (by assumption))) <;> (first | omega | (simp only [AH.size_new, AH.size_put] <;> omega))))) (by omega) t1k1w x1 _ (q1k1w.ext (by ((repeat' (first | exact Ext.refl _ | assumption | refine Ext.trans ?_ (Ext.new _ _) | refine Ext.put ?_ ?_ _ | refine Ext.trans ?_ (by assumption))) <;> (first | omega | (simp only [AH.size_new, AH.size_put] <;> omega))))) x2.1 x2.2.1 t2k1w x2.2.2 _ (q2k1w.ext (by ((repeat' (first | exact Ext.refl _ | assumption | refine Ext.trans ?_ (Ext.new _ _) | refine Ext.put ?_ ?_ _ | refine Ext.trans ?_ (by assumption))) <;> (first | omega | (simp only [AH.size_new, AH.size_put] <;> omega))))) u2k1w x3).mono ?_
  rintro r B7 ⟨cc, Fw, rfl, qq, _, hE7⟩
  rw [← hy] at qq
  have bdw := Dat.bound qq
  obtain ⟨rwk1, rwk2, Rwk1, Rwk2, rfl, hRw, pwk1, pwk2, owk1⟩ := rep_Record.1 qq
  have v7 := hE7.size
  try simp only [AH.size_new, AH.size_put] at v7
  simp (maxSteps := 2000000) (disch := first | omega | (simp only [AH.size_new, AH.size_put] <;> omega) | fail) only [amR Tryd.prog ro X, amS, seval, reduceCtorEq, ty3, ty4, ty9, ty22, ty24, ty27, ty29, ty47, ty64, ty67, ty69, ty73, hE1.get, hE2.get, hE3.get, hE4.get, hE5.get, hE6.get, hE7.get]
  refine (Law.to_Program _ (by first | omega | (simp only [AH.size_new, AH.size_put] <;> omega)) x0 _ _ (Dat.ext h0 (by ((repeat' (first | exact Ext.refl _ | assumption | refine Ext.trans ?_ (Ext.new _ _) | refine Ext.put ?_ ?_ _ | refine Ext.trans ?_ (by assumption))) <;> (first | omega | (simp only [AH.size_new, AH.size_put] <;> omega))))) (by omega)).mono ?_
  rintro r B8 ⟨cc, H0x, rfl, qq, f0x, hE8⟩
  obtain ⟨t0k1x, G0k1x, rfl, hH0x, q0k1x⟩ := rep_Program.1 qq
  have v8 := hE8.size
  try simp only [AH.size_new, AH.size_put] at v8
  simp (maxSteps := 2000000) (disch := first | omega | (simp only [AH.size_new, AH.size_put] <;> omega) | fail) only [amR Tryd.prog ro X, amS, seval, reduceCtorEq, ty3, ty4, ty9, ty22, ty24, ty27, ty29, ty47, ty64, ty67, ty69, ty73, hE1.get, hE2.get, hE3.get, hE4.get, hE5.get, hE6.get, hE7.get, hE8.get]
  refine (Law.toL_Seen _ (by first | omega | (simp only [AH.size_new, AH.size_put] <;> omega)) s1 x1 _ (h1.ext (by ((repeat' (first | exact Ext.refl _ | assumption | refine Ext.trans ?_ (Ext.new _ _) | refine Ext.put ?_ ?_ _ | refine Ext.trans ?_ (by assumption))) <;> (first | omega | (simp only [AH.size_new, AH.size_put] <;> omega))))) (by omega)).mono ?_
  rintro r B9 ⟨t1k1x, H1x, rfl, q1k1x, f1x, hE9⟩
  have v9 := hE9.size
  try simp only [AH.size_new, AH.size_put] at v9
  simp (maxSteps := 2000000) (disch := first | omega | (simp only [AH.size_new, AH.size_put] <;> omega) | fail) only [amR Tryd.prog ro X, amS, seval, reduceCtorEq, ty3, ty4, ty9, ty22, ty24, ty27, ty29, ty47, ty64, ty67, ty69, ty73, hE1.get, hE2.get, hE3.get, hE4.get, hE5.get, hE6.get, hE7.get, hE8.get, hE9.get]
  refine (Law.to_Result _ (by first | omega | (simp only [AH.size_new, AH.size_put] <;> omega)) x2 _ _ (Dat.ext h2 (by ((repeat' (first | exact Ext.refl _ | assumption | refine Ext.trans ?_ (Ext.new _ _) | refine Ext.put ?_ ?_ _ | refine Ext.trans ?_ (by assumption))) <;> (first | omega | (simp only [AH.size_new, AH.size_put] <;> omega))))) (by omega)).mono ?_
  rintro r B10 ⟨cc, H2x, rfl, qq, f2x, hE10⟩
  obtain ⟨t2k1x, G2k1x, rfl, hH2x, y2k1x, q2k1x⟩ := rep_Result.1 qq
  have u2k1x := big_lt y2k1x
  have v10 := hE10.size
  try simp only [AH.size_new, AH.size_put] at v10
  simp (maxSteps := 2000000) (disch := first | omega | (simp only [AH.size_new, AH.size_put] <;> omega) | fail) only [amR Tryd.prog ro X, amS, seval, reduceCtorEq, ty3, ty4, ty9, ty22, ty24, ty27, ty29, ty47, ty64, ty67, ty69, ty73, hE1.get, hE2.get, hE3.get, hE4.get, hE5.get, hE6.get, hE7.get, hE8.get, hE9.get, hE10.get]
  refine (Note.impl_a _ (by first | omega | (simp only [AH.size_new, AH.size_put] <;> omega)) (hT.ext (by ((repeat' (first | exact Ext.refl _ | assumption | refine Ext.trans ?_ (Ext.new _ _) | refine Ext.put ?_ ?_ _ | refine Ext.trans ?_ (by assumption))) <;> (first | omega | (simp only [AH.size_new, AH.size_put] <;> omega))))) t0k1x x0 _ (q0k1x.ext (by ((repeat' (first | exact Ext.refl _ | assumption | refine Ext.trans ?_ (Ext.new _ _) | refine Ext.put ?_ ?_ _ | refine Ext.trans ?_ (by assumption))) <;> (first | omega | (simp only [AH.size_new, AH.size_put] <;> omega))))) (by omega) t1k1x x1 _ (q1k1x.ext (by ((repeat' (first | exact Ext.refl _ | assumption | refine Ext.trans ?_ (Ext.new _ _) | refine Ext.put ?_ ?_ _ | refine Ext.trans ?_ (by assumption))) <;> (first | omega | (simp only [AH.size_new, AH.size_put] <;> omega))))) x2.1 x2.2.1 t2k1x x2.2.2 _ (q2k1x.ext (by ((repeat' (first | exact Ext.refl _ | assumption | refine Ext.trans ?_ (Ext.new _ _) | refine Ext.put ?_ ?_ _ | refine Ext.trans ?_ (by assumption))) <;> (first | omega | (simp only [AH.size_new, AH.size_put] <;> omega))))) u2k1x x3).mono ?_
  rintro r B11 ⟨cc, Fg, rfl, qq, fg, hE11⟩
  rw [← hy] at qq
  obtain ⟨rgk1, rgk2, Rgk1, Rgk2, rfl, hRg, pgk1, pgk2, ogk1⟩ := rep_Record.1 qq
  have v11 := hE11.size
  try simp only [AH.size_new, AH.size_put] at v11
  simp (maxSteps := 2000000) (disch := first | omega | (simp only [AH.size_new, AH.size_put] <;> omega) | fail) only [amR Tryd.prog ro X, amS, seval, reduceCtorEq, ty3, ty4, ty9, ty22, ty24, ty27, ty29, ty47, ty64, ty67, ty69, ty73, hE1.get, hE2.get, hE3.get, hE4.get, hE5.get, hE6.get, hE7.get, hE8.get, hE9.get, hE10.get, hE11.get]
  refine (Law.eq_Record _ (by first | omega | (simp only [AH.size_new, AH.size_put] <;> omega)) y y _ _ _ _ (rep_Record.2 ⟨rgk1, rgk2, _, _, rfl, rfl, pgk1.ext (by ((repeat' (first | exact Ext.refl _ | assumption | refine Ext.trans ?_ (Ext.new _ _) | refine Ext.put ?_ ?_ _ | refine Ext.trans ?_ (by assumption))) <;> (first | omega | (simp only [AH.size_new, AH.size_put] <;> omega)))), pgk2.ext (by ((repeat' (first | exact Ext.refl _ | assumption | refine Ext.trans ?_ (Ext.new _ _) | refine Ext.put ?_ ?_ _ | refine Ext.trans ?_ (by assumption))) <;> (first | omega | (simp only [AH.size_new, AH.size_put] <;> omega)))), ogk1⟩) (rep_Record.2 ⟨rwk1, rwk2, _, _, rfl, rfl, pwk1.ext (by ((repeat' (first | exact Ext.refl _ | assumption | refine Ext.trans ?_ (Ext.new _ _) | refine Ext.put ?_ ?_ _ | refine Ext.trans ?_ (by assumption))) <;> (first | omega | (simp only [AH.size_new, AH.size_put] <;> omega)))), pwk2.ext (by ((repeat' (first | exact Ext.refl _ | assumption | refine Ext.trans ?_ (Ext.new _ _) | refine Ext.put ?_ ?_ _ | refine Ext.trans ?_ (by assumption))) <;> (first | omega | (simp only [AH.size_new, AH.size_put] <;> omega)))), owk1⟩) (by omega)).mono ?_
  rintro r B12 ⟨rfl, hE12⟩
  have v12 := hE12.size
  try simp only [AH.size_new, AH.size_put] at v12
  simp (maxSteps := 2000000) (disch := first | omega | (simp only [AH.size_new, AH.size_put] <;> omega) | fail) only [amR Tryd.prog ro X, amS, seval, reduceCtorEq, ty3, ty4, ty9, ty22, ty24, ty27, ty29, ty47, ty64, ty67, ty69, ty73, hE1.get, hE2.get, hE3.get, hE4.get, hE5.get, hE6.get, hE7.get, hE8.get, hE9.get, hE10.get, hE11.get, hE12.get]
  refine Wp.runG [2] (by kernel_rfl) (.inl (by kernel_rfl)) ?_
  simp (maxSteps := 2000000) (disch := first | omega | (simp only [AH.size_new, AH.size_put] <;> omega) | fail) only [amR Tryd.prog ro X, amS, seval, reduceCtorEq, ty3, ty4, ty9, ty22, ty24, ty27, ty29, ty47, ty64, ty67, ty69, ty73, hE1.get, hE2.get, hE3.get, hE4.get, hE5.get, hE6.get, hE7.get, hE8.get, hE9.get, hE10.get, hE11.get, hE12.get]
  refine (Law.to_Program _ (by first | omega | (simp only [AH.size_new, AH.size_put] <;> omega)) x0 _ _ (Dat.ext h0 (by ((repeat' (first | exact Ext.refl _ | assumption | refine Ext.trans ?_ (Ext.new _ _) | refine Ext.put ?_ ?_ _ | refine Ext.trans ?_ (by assumption))) <;> (first | omega | (simp only [AH.size_new, AH.size_put] <;> omega))))) (by omega)).mono ?_
  rintro r B13 ⟨cc, H0y, rfl, qq, f0y, hE13⟩
  obtain ⟨t0k1y, G0k1y, rfl, hH0y, q0k1y⟩ := rep_Program.1 qq
  have v13 := hE13.size
  try simp only [AH.size_new, AH.size_put] at v13
  simp (maxSteps := 2000000) (disch := first | omega | (simp only [AH.size_new, AH.size_put] <;> omega) | fail) only [amR Tryd.prog ro X, amS, seval, reduceCtorEq, ty3, ty4, ty9, ty22, ty24, ty27, ty29, ty47, ty64, ty67, ty69, ty73, hE1.get, hE2.get, hE3.get, hE4.get, hE5.get, hE6.get, hE7.get, hE8.get, hE9.get, hE10.get, hE11.get, hE12.get]
  refine ⟨fun b hb => hE13.get b hb, ?_⟩
  try simp (maxSteps := 2000000) (disch := first | omega | (simp only [AH.size_new, AH.size_put] <;> omega) | fail) only [amR Tryd.prog ro X, amS, seval, reduceCtorEq, ty3, ty4, ty9, ty22, ty24, ty27, ty29, ty47, ty64, ty67, ty69, ty73, hE1.get, hE2.get, hE3.get, hE4.get, hE5.get, hE6.get, hE7.get, hE8.get, hE9.get, hE10.get, hE11.get, hE12.get, hE13.get]
  refine (Law.eq_Program _ (by first | omega | (simp only [AH.size_new, AH.size_put] <;> omega)) x0 x0 _ _ _ _ (rep_Program.2 ⟨t0k1x, _, rfl, rfl, q0k1x.ext (by ((repeat' (first | exact Ext.refl _ | assumption | refine Ext.trans ?_ (Ext.new _ _) | refine Ext.put ?_ ?_ _ | refine Ext.trans ?_ (by assumption))) <;> (first | omega | (simp only [AH.size_new, AH.size_put] <;> omega))))⟩) (rep_Program.2 ⟨t0k1y, _, rfl, rfl, q0k1y.ext (by ((repeat' (first | exact Ext.refl _ | assumption | refine Ext.trans ?_ (Ext.new _ _) | refine Ext.put ?_ ?_ _ | refine Ext.trans ?_ (by assumption))) <;> (first | omega | (simp only [AH.size_new, AH.size_put] <;> omega))))⟩) (by omega)).mono ?_
  rintro r B14 ⟨rfl, hE14⟩
  have v14 := hE14.size
  try simp only [AH.size_new, AH.size_put] at v14
  simp (maxSteps := 2000000) (disch := first | omega | (simp only [AH.size_new, AH.size_put] <;> omega) | fail) only [amR Tryd.prog ro X, amS, seval, reduceCtorEq, ty3, ty4, ty9, ty22, ty24, ty27, ty29, ty47, ty64, ty67, ty69, ty73, hE1.get, hE2.get, hE3.get, hE4.get, hE5.get, hE6.get, hE7.get, hE8.get, hE9.get, hE10.get, hE11.get, hE12.get, hE13.get, hE14.get]
  refine (Law.toL_Seen _ (by first | omega | (simp only [AH.size_new, AH.size_put] <;> omega)) s1 x1 _ (h1.ext (by ((repeat' (first | exact Ext.refl _ | assumption | refine Ext.trans ?_ (Ext.new _ _) | refine Ext.put ?_ ?_ _ | refine Ext.trans ?_ (by assumption))) <;> (first | omega | (simp only [AH.size_new, AH.size_put] <;> omega))))) (by omega)).mono ?_
  rintro r B15 ⟨t1k1y, H1y, rfl, q1k1y, f1y, hE15⟩
  have v15 := hE15.size
  try simp only [AH.size_new, AH.size_put] at v15
  simp (maxSteps := 2000000) (disch := first | omega | (simp only [AH.size_new, AH.size_put] <;> omega) | fail) only [amR Tryd.prog ro X, amS, seval, reduceCtorEq, ty3, ty4, ty9, ty22, ty24, ty27, ty29, ty47, ty64, ty67, ty69, ty73, hE1.get, hE2.get, hE3.get, hE4.get, hE5.get, hE6.get, hE7.get, hE8.get, hE9.get, hE10.get, hE11.get, hE12.get, hE13.get, hE14.get, hE15.get]
  refine (Law.eqL_Seen _ (by first | omega | (simp only [AH.size_new, AH.size_put] <;> omega)) t1k1x t1k1y _ _ _ _ (q1k1x.ext (by ((repeat' (first | exact Ext.refl _ | assumption | refine Ext.trans ?_ (Ext.new _ _) | refine Ext.put ?_ ?_ _ | refine Ext.trans ?_ (by assumption))) <;> (first | omega | (simp only [AH.size_new, AH.size_put] <;> omega))))) (q1k1y.ext (by ((repeat' (first | exact Ext.refl _ | assumption | refine Ext.trans ?_ (Ext.new _ _) | refine Ext.put ?_ ?_ _ | refine Ext.trans ?_ (by assumption))) <;> (first | omega | (simp only [AH.size_new, AH.size_put] <;> omega))))) (by omega)).mono ?_
  rintro r B16 ⟨rfl, hE16⟩
  have v16 := hE16.size
  try simp only [AH.size_new, AH.size_put] at v16
  simp (maxSteps := 2000000) (disch := first | omega | (simp only [AH.size_new, AH.size_put] <;> omega) | fail) only [amR Tryd.prog ro X, amS, seval, reduceCtorEq, ty3, ty4, ty9, ty22, ty24, ty27, ty29, ty47, ty64, ty67, ty69, ty73, hE1.get, hE2.get, hE3.get, hE4.get, hE5.get, hE6.get, hE7.get, hE8.get, hE9.get, hE10.get, hE11.get, hE12.get, hE13.get, hE14.get, hE15.get, hE16.get]
  refine Wp.runG [2] (by kernel_rfl) (.inl (by kernel_rfl)) ?_
  simp (maxSteps := 2000000) (disch := first | omega | (simp only [AH.size_new, AH.size_put] <;> omega) | fail) only [amR Tryd.prog ro X, amS, seval, reduceCtorEq, ty3, ty4, ty9, ty22, ty24, ty27, ty29, ty47, ty64, ty67, ty69, ty73, hE1.get, hE2.get, hE3.get, hE4.get, hE5.get, hE6.get, hE7.get, hE8.get, hE9.get, hE10.get, hE11.get, hE12.get, hE13.get, hE14.get, hE15.get, hE16.get]
  refine (Law.to_Result _ (by first | omega | (simp only [AH.size_new, AH.size_put] <;> omega)) x2 _ _ (Dat.ext h2 (by ((repeat' (first | exact Ext.refl _ | assumption | refine Ext.trans ?_ (Ext.new _ _) | refine Ext.put ?_ ?_ _ | refine Ext.trans ?_ (by assumption))) <;> (first | omega | (simp only [AH.size_new, AH.size_put] <;> omega))))) (by omega)).mono ?_
  rintro r B17 ⟨cc, H2y, rfl, qq, f2y, hE17⟩
  obtain ⟨t2k1y, G2k1y, rfl, hH2y, y2k1y, q2k1y⟩ := rep_Result.1 qq
  have u2k1y := big_lt y2k1y
  have v17 := hE17.size
  try simp only [AH.size_new, AH.size_put] at v17
  simp (maxSteps := 2000000) (disch := first | omega | (simp only [AH.size_new, AH.size_put] <;> omega) | fail) only [amR Tryd.prog ro X, amS, seval, reduceCtorEq, ty3, ty4, ty9, ty22, ty24, ty27, ty29, ty47, ty64, ty67, ty69, ty73, hE1.get, hE2.get, hE3.get, hE4.get, hE5.get, hE6.get, hE7.get, hE8.get, hE9.get, hE10.get, hE11.get, hE12.get, hE13.get, hE14.get, hE15.get, hE16.get]
  refine ⟨fun b hb => hE17.get b hb, ?_⟩
  try simp (maxSteps := 2000000) (disch := first | omega | (simp only [AH.size_new, AH.size_put] <;> omega) | fail) only [amR Tryd.prog ro X, amS, seval, reduceCtorEq, ty3, ty4, ty9, ty22, ty24, ty27, ty29, ty47, ty64, ty67, ty69, ty73, hE1.get, hE2.get, hE3.get, hE4.get, hE5.get, hE6.get, hE7.get, hE8.get, hE9.get, hE10.get, hE11.get, hE12.get, hE13.get, hE14.get, hE15.get, hE16.get, hE17.get]
  refine (Law.eq_Result _ (by first | omega | (simp only [AH.size_new, AH.size_put] <;> omega)) x2 x2 _ _ _ _ (rep_Result.2 ⟨t2k1x, _, rfl, rfl, y2k1x, q2k1x.ext (by ((repeat' (first | exact Ext.refl _ | assumption | refine Ext.trans ?_ (Ext.new _ _) | refine Ext.put ?_ ?_ _ | refine Ext.trans ?_ (by assumption))) <;> (first | omega | (simp only [AH.size_new, AH.size_put] <;> omega))))⟩) (rep_Result.2 ⟨t2k1y, _, rfl, rfl, y2k1y, q2k1y.ext (by ((repeat' (first | exact Ext.refl _ | assumption | refine Ext.trans ?_ (Ext.new _ _) | refine Ext.put ?_ ?_ _ | refine Ext.trans ?_ (by assumption))) <;> (first | omega | (simp only [AH.size_new, AH.size_put] <;> omega))))⟩) (by omega)).mono ?_
  rintro r B18 ⟨rfl, hE18⟩
  have v18 := hE18.size
  try simp only [AH.size_new, AH.size_put] at v18
  simp (maxSteps := 2000000) (disch := first | omega | (simp only [AH.size_new, AH.size_put] <;> omega) | fail) only [amR Tryd.prog ro X, amS, seval, reduceCtorEq, ty3, ty4, ty9, ty22, ty24, ty27, ty29, ty47, ty64, ty67, ty69, ty73, hE1.get, hE2.get, hE3.get, hE4.get, hE5.get, hE6.get, hE7.get, hE8.get, hE9.get, hE10.get, hE11.get, hE12.get, hE13.get, hE14.get, hE15.get, hE16.get, hE17.get, hE18.get]
  refine (Law.mk_Program _ (by first | omega | (simp only [AH.size_new, AH.size_put] <;> omega)) t0k1x _ _ (1) (q0k1x.ext (by ((repeat' (first | exact Ext.refl _ | assumption | refine Ext.trans ?_ (Ext.new _ _) | refine Ext.put ?_ ?_ _ | refine Ext.trans ?_ (by assumption))) <;> (first | omega | (simp only [AH.size_new, AH.size_put] <;> omega))))) (fun b hb => by have := f0x.lo b (by rw [hH0x]; simp [hb]); first | omega | (simp only [AH.size_new, AH.size_put] at this ⊢; omega) | (simp only [AH.size_new, AH.size_put] at this; omega)) (by rw [← hH0x]; exact f0x.nodup) ⟨by omega, by omega⟩).mono ?_
  rintro r B19 ⟨rfl, a19k1, hX19⟩
  have v19 := hX19.size
  try simp only [AH.size_new, AH.size_put] at v19
  have P19 := (fun b hb => f0x.both b (by rw [hH0x]; exact hb))
  have hK19 := hX19.out P19
  have EA19 : Ext A B19 := hX19.base P19 (by ((repeat' (first | exact Ext.refl _ | assumption | refine Ext.trans ?_ (Ext.new _ _) | refine Ext.put ?_ ?_ _ | refine Ext.trans ?_ (by assumption))) <;> (first | omega | (simp only [AH.size_new, AH.size_put] <;> omega)))) (by first | omega | (simp only [AH.size_new, AH.size_put] <;> omega))
  have EW19 : Ext B7 B19 := hX19.base P19 (by ((repeat' (first | exact Ext.refl _ | assumption | refine Ext.trans ?_ (Ext.new _ _) | refine Ext.put ?_ ?_ _ | refine Ext.trans ?_ (by assumption))) <;> (first | omega | (simp only [AH.size_new, AH.size_put] <;> omega)))) (by first | omega | (simp only [AH.size_new, AH.size_put] <;> omega))
  have q1k1xzm19 := (q1k1x.ext (by ((repeat' (first | exact Ext.refl _ | assumption | refine Ext.trans ?_ (Ext.new _ _) | refine Ext.put ?_ ?_ _ | refine Ext.trans ?_ (by assumption))) <;> (first | omega | (simp only [AH.size_new, AH.size_put] <;> omega))))).out hX19 P19 (fun b hb => .inr (by have := f1x.lo b (hb); first | omega | (simp only [AH.size_new, AH.size_put] at this ⊢; omega) | (simp only [AH.size_new, AH.size_put] at this; omega)))
  have q2k1xzm19 := (q2k1x.ext (by ((repeat' (first | exact Ext.refl _ | assumption | refine Ext.trans ?_ (Ext.new _ _) | refine Ext.put ?_ ?_ _ | refine Ext.trans ?_ (by assumption))) <;> (first | omega | (simp only [AH.size_new, AH.size_put] <;> omega))))).out hX19 P19 (fun b hb => .inr (by have := f2x.lo b (by rw [hH2x]; simp [hb]); first | omega | (simp only [AH.size_new, AH.size_put] at this ⊢; omega) | (simp only [AH.size_new, AH.size_put] at this; omega)))
  have pgk1zm19 := (pgk1.ext (by ((repeat' (first | exact Ext.refl _ | assumption | refine Ext.trans ?_ (Ext.new _ _) | refine Ext.put ?_ ?_ _ | refine Ext.trans ?_ (by assumption))) <;> (first | omega | (simp only [AH.size_new, AH.size_put] <;> omega))))).out hX19 P19 (fun b hb => .inr (by have := fg.lo b (by rw [hRg]; simp [hb]); first | omega | (simp only [AH.size_new, AH.size_put] at this ⊢; omega) | (simp only [AH.size_new, AH.size_put] at this; omega)))
  have pgk2zm19 := (pgk2.ext (by ((repeat' (first | exact Ext.refl _ | assumption | refine Ext.trans ?_ (Ext.new _ _) | refine Ext.put ?_ ?_ _ | refine Ext.trans ?_ (by assumption))) <;> (first | omega | (simp only [AH.size_new, AH.size_put] <;> omega))))).out hX19 P19 (fun b hb => .inr (by have := fg.lo b (by rw [hRg]; simp [hb]); first | omega | (simp only [AH.size_new, AH.size_put] at this ⊢; omega) | (simp only [AH.size_new, AH.size_put] at this; omega)))
  simp (maxSteps := 2000000) (disch := first | omega | (simp only [AH.size_new, AH.size_put] <;> omega) | fail) only [amR Tryd.prog ro X, amS, seval, reduceCtorEq, ty3, ty4, ty9, ty22, ty24, ty27, ty29, ty47, ty64, ty67, ty69, ty73, hE1.get, hE2.get, hE3.get, hE4.get, hE5.get, hE6.get, hE7.get, hE8.get, hE9.get, hE10.get, hE11.get, hE12.get, hE13.get, hE14.get, hE15.get, hE16.get, hE17.get, hE18.get, hK19]
  refine (Law.mkL_Seen _ (by first | omega | (simp only [AH.size_new, AH.size_put] <;> omega)) t1k1x _ _ (q1k1xzm19.ext (by ((repeat' (first | exact Ext.refl _ | assumption | refine Ext.trans ?_ (Ext.new _ _) | refine Ext.put ?_ ?_ _ | refine Ext.trans ?_ (by assumption))) <;> (first | omega | (simp only [AH.size_new, AH.size_put] <;> omega))))) (fun b hb => by have := f1x.lo b hb; first | omega | (simp only [AH.size_new, AH.size_put] at this ⊢; omega) | (simp only [AH.size_new, AH.size_put] at this; omega)) f1x.nodup (1 + (nmL x0 : Nat)) ⟨by omega, by omega⟩).mono ?_
  rintro r B20 ⟨rfl, a20k1, hX20⟩
  have v20 := hX20.size
  try simp only [AH.size_new, AH.size_put] at v20
  have P20 := f1x.both
  have hK20 := hX20.out P20
  have EA20 : Ext A B20 := hX20.base P20 (by ((repeat' (first | exact Ext.refl _ | assumption | refine Ext.trans ?_ (Ext.new _ _) | refine Ext.put ?_ ?_ _ | refine Ext.trans ?_ (by assumption))) <;> (first | omega | (simp only [AH.size_new, AH.size_put] <;> omega)))) (by first | omega | (simp only [AH.size_new, AH.size_put] <;> omega))
  have EW20 : Ext B7 B20 := hX20.base P20 (by ((repeat' (first | exact Ext.refl _ | assumption | refine Ext.trans ?_ (Ext.new _ _) | refine Ext.put ?_ ?_ _ | refine Ext.trans ?_ (by assumption))) <;> (first | omega | (simp only [AH.size_new, AH.size_put] <;> omega)))) (by first | omega | (simp only [AH.size_new, AH.size_put] <;> omega))
  have q2k1xzm20 := (q2k1xzm19.ext (by ((repeat' (first | exact Ext.refl _ | assumption | refine Ext.trans ?_ (Ext.new _ _) | refine Ext.put ?_ ?_ _ | refine Ext.trans ?_ (by assumption))) <;> (first | omega | (simp only [AH.size_new, AH.size_put] <;> omega))))).out hX20 P20 (fun b hb => .inr (by have := f2x.lo b (by rw [hH2x]; simp [hb]); first | omega | (simp only [AH.size_new, AH.size_put] at this ⊢; omega) | (simp only [AH.size_new, AH.size_put] at this; omega)))
  have pgk1zm20 := (pgk1zm19.ext (by ((repeat' (first | exact Ext.refl _ | assumption | refine Ext.trans ?_ (Ext.new _ _) | refine Ext.put ?_ ?_ _ | refine Ext.trans ?_ (by assumption))) <;> (first | omega | (simp only [AH.size_new, AH.size_put] <;> omega))))).out hX20 P20 (fun b hb => .inr (by have := fg.lo b (by rw [hRg]; simp [hb]); first | omega | (simp only [AH.size_new, AH.size_put] at this ⊢; omega) | (simp only [AH.size_new, AH.size_put] at this; omega)))
  have pgk2zm20 := (pgk2zm19.ext (by ((repeat' (first | exact Ext.refl _ | assumption | refine Ext.trans ?_ (Ext.new _ _) | refine Ext.put ?_ ?_ _ | refine Ext.trans ?_ (by assumption))) <;> (first | omega | (simp only [AH.size_new, AH.size_put] <;> omega))))).out hX20 P20 (fun b hb => .inr (by have := fg.lo b (by rw [hRg]; simp [hb]); first | omega | (simp only [AH.size_new, AH.size_put] at this ⊢; omega) | (simp only [AH.size_new, AH.size_put] at this; omega)))
  simp (maxSteps := 2000000) (disch := first | omega | (simp only [AH.size_new, AH.size_put] <;> omega) | fail) only [amR Tryd.prog ro X, amS, seval, reduceCtorEq, ty3, ty4, ty9, ty22, ty24, ty27, ty29, ty47, ty64, ty67, ty69, ty73, hE1.get, hE2.get, hE3.get, hE4.get, hE5.get, hE6.get, hE7.get, hE8.get, hE9.get, hE10.get, hE11.get, hE12.get, hE13.get, hE14.get, hE15.get, hE16.get, hE17.get, hE18.get, hK19, hK20]
  refine (Law.mk_Result _ (by first | omega | (simp only [AH.size_new, AH.size_put] <;> omega)) _ _ t2k1x _ _ (1 + (nmL x0 : Nat) + (nmL x1 : Nat)) (q2k1xzm20.ext (by ((repeat' (first | exact Ext.refl _ | assumption | refine Ext.trans ?_ (Ext.new _ _) | refine Ext.put ?_ ?_ _ | refine Ext.trans ?_ (by assumption))) <;> (first | omega | (simp only [AH.size_new, AH.size_put] <;> omega))))) (fun b hb => by have := f2x.lo b (by rw [hH2x]; simp [hb]); first | omega | (simp only [AH.size_new, AH.size_put] at this ⊢; omega) | (simp only [AH.size_new, AH.size_put] at this; omega)) (by rw [← hH2x]; exact f2x.nodup) ⟨by omega, by omega⟩).mono ?_
  rintro r B21 ⟨rfl, a21k1, hX21⟩
  have v21 := hX21.size
  try simp only [AH.size_new, AH.size_put] at v21
  have P21 := (fun b hb => f2x.both b (by rw [hH2x]; exact hb))
  have hK21 := hX21.out P21
  have EA21 : Ext A B21 := hX21.base P21 (by ((repeat' (first | exact Ext.refl _ | assumption | refine Ext.trans ?_ (Ext.new _ _) | refine Ext.put ?_ ?_ _ | refine Ext.trans ?_ (by assumption))) <;> (first | omega | (simp only [AH.size_new, AH.size_put] <;> omega)))) (by first | omega | (simp only [AH.size_new, AH.size_put] <;> omega))
  have EW21 : Ext B7 B21 := hX21.base P21 (by ((repeat' (first | exact Ext.refl _ | assumption | refine Ext.trans ?_ (Ext.new _ _) | refine Ext.put ?_ ?_ _ | refine Ext.trans ?_ (by assumption))) <;> (first | omega | (simp only [AH.size_new, AH.size_put] <;> omega)))) (by first | omega | (simp only [AH.size_new, AH.size_put] <;> omega))
  have pgk1zm21 := (pgk1zm20.ext (by ((repeat' (first | exact Ext.refl _ | assumption | refine Ext.trans ?_ (Ext.new _ _) | refine Ext.put ?_ ?_ _ | refine Ext.trans ?_ (by assumption))) <;> (first | omega | (simp only [AH.size_new, AH.size_put] <;> omega))))).out hX21 P21 (fun b hb => .inr (by have := fg.lo b (by rw [hRg]; simp [hb]); first | omega | (simp only [AH.size_new, AH.size_put] at this ⊢; omega) | (simp only [AH.size_new, AH.size_put] at this; omega)))
  have pgk2zm21 := (pgk2zm20.ext (by ((repeat' (first | exact Ext.refl _ | assumption | refine Ext.trans ?_ (Ext.new _ _) | refine Ext.put ?_ ?_ _ | refine Ext.trans ?_ (by assumption))) <;> (first | omega | (simp only [AH.size_new, AH.size_put] <;> omega))))).out hX21 P21 (fun b hb => .inr (by have := fg.lo b (by rw [hRg]; simp [hb]); first | omega | (simp only [AH.size_new, AH.size_put] at this ⊢; omega) | (simp only [AH.size_new, AH.size_put] at this; omega)))
  have kn : ¬ (1 + (nmL x0 : Nat) + (nmL x1 : Nat) + (nmL x2.2.2 : Nat) : Int) < 0 := by omega
  simp (maxSteps := 2000000) (disch := first | omega | (simp only [AH.size_new, AH.size_put] <;> omega) | fail) only [amR Tryd.prog ro X, amS, seval, reduceCtorEq, ty3, ty4, ty9, ty22, ty24, ty27, ty29, ty47, ty64, ty67, ty69, ty73, hE1.get, hE2.get, hE3.get, hE4.get, hE5.get, hE6.get, hE7.get, hE8.get, hE9.get, hE10.get, hE11.get, hE12.get, hE13.get, hE14.get, hE15.get, hE16.get, hE17.get, hE18.get, hK19, hK20, hK21, kn]
  refine (Law.eq_Record _ (by first | omega | (simp only [AH.size_new, AH.size_put] <;> omega)) y y _ _ _ _ (rep_Record.2 ⟨rgk1, rgk2, _, _, rfl, rfl, pgk1zm21.ext (by ((repeat' (first | exact Ext.refl _ | assumption | refine Ext.trans ?_ (Ext.new _ _) | refine Ext.put ?_ ?_ _ | refine Ext.trans ?_ (by assumption))) <;> (first | omega | (simp only [AH.size_new, AH.size_put] <;> omega)))), pgk2zm21.ext (by ((repeat' (first | exact Ext.refl _ | assumption | refine Ext.trans ?_ (Ext.new _ _) | refine Ext.put ?_ ?_ _ | refine Ext.trans ?_ (by assumption))) <;> (first | omega | (simp only [AH.size_new, AH.size_put] <;> omega)))), ogk1⟩) (rep_Record.2 ⟨rwk1, rwk2, _, _, rfl, rfl, pwk1.ext (by ((repeat' (first | exact Ext.refl _ | assumption | refine Ext.trans ?_ (Ext.new _ _) | refine Ext.put ?_ ?_ _ | refine Ext.trans ?_ (by assumption))) <;> (first | omega | (simp only [AH.size_new, AH.size_put] <;> omega)))), pwk2.ext (by ((repeat' (first | exact Ext.refl _ | assumption | refine Ext.trans ?_ (Ext.new _ _) | refine Ext.put ?_ ?_ _ | refine Ext.trans ?_ (by assumption))) <;> (first | omega | (simp only [AH.size_new, AH.size_put] <;> omega)))), owk1⟩) (by omega)).mono ?_
  rintro r B22 ⟨rfl, hE22⟩
  have v22 := hE22.size
  try simp only [AH.size_new, AH.size_put] at v22
  simp (maxSteps := 2000000) (disch := first | omega | (simp only [AH.size_new, AH.size_put] <;> omega) | fail) only [amR Tryd.prog ro X, amS, seval, reduceCtorEq, ty3, ty4, ty9, ty22, ty24, ty27, ty29, ty47, ty64, ty67, ty69, ty73, hE1.get, hE2.get, hE3.get, hE4.get, hE5.get, hE6.get, hE7.get, hE8.get, hE9.get, hE10.get, hE11.get, hE12.get, hE13.get, hE14.get, hE15.get, hE16.get, hE17.get, hE18.get, hK19, hK20, hK21, kn, hE22.get]
  refine (Law.mk_Record _ (by first | omega | (simp only [AH.size_new, AH.size_put] <;> omega)) rgk1 _ _ rgk2 _ _ _ (1) (pgk1zm21.ext (by ((repeat' (first | exact Ext.refl _ | assumption | refine Ext.trans ?_ (Ext.new _ _) | refine Ext.put ?_ ?_ _ | refine Ext.trans ?_ (by assumption))) <;> (first | omega | (simp only [AH.size_new, AH.size_put] <;> omega))))) (fun b hb => by have := fg.lo b (by rw [hRg]; simp [hb]); first | omega | (simp only [AH.size_new, AH.size_put] at this ⊢; omega) | (simp only [AH.size_new, AH.size_put] at this; omega)) (pgk2zm21.ext (by ((repeat' (first | exact Ext.refl _ | assumption | refine Ext.trans ?_ (Ext.new _ _) | refine Ext.put ?_ ?_ _ | refine Ext.trans ?_ (by assumption))) <;> (first | omega | (simp only [AH.size_new, AH.size_put] <;> omega))))) (fun b hb => by have := fg.lo b (by rw [hRg]; simp [hb]); first | omega | (simp only [AH.size_new, AH.size_put] at this ⊢; omega) | (simp only [AH.size_new, AH.size_put] at this; omega)) (by rw [← hRg]; exact fg.nodup) ⟨by omega, by omega⟩).mono ?_
  rintro r B23 ⟨rfl, a23k1, a23k2, hX23⟩
  have v23 := hX23.size
  try simp only [AH.size_new, AH.size_put] at v23
  have P23 := (fun b hb => fg.both b (by rw [hRg]; exact hb))
  have hK23 := hX23.out P23
  have EA23 : Ext A B23 := hX23.base P23 (by ((repeat' (first | exact Ext.refl _ | assumption | refine Ext.trans ?_ (Ext.new _ _) | refine Ext.put ?_ ?_ _ | refine Ext.trans ?_ (by assumption))) <;> (first | omega | (simp only [AH.size_new, AH.size_put] <;> omega)))) (by first | omega | (simp only [AH.size_new, AH.size_put] <;> omega))
  have EW23 : Ext B7 B23 := hX23.base P23 (by ((repeat' (first | exact Ext.refl _ | assumption | refine Ext.trans ?_ (Ext.new _ _) | refine Ext.put ?_ ?_ _ | refine Ext.trans ?_ (by assumption))) <;> (first | omega | (simp only [AH.size_new, AH.size_put] <;> omega)))) (by first | omega | (simp only [AH.size_new, AH.size_put] <;> omega))
  have kr : ¬ (1 + (nmL y.1 : Nat) + (nmL y.2.1 : Nat) : Int) < 0 := by omega
  simp (maxSteps := 2000000) (disch := first | omega | (simp only [AH.size_new, AH.size_put] <;> omega) | fail) only [amR Tryd.prog ro X, amS, seval, reduceCtorEq, ty3, ty4, ty9, ty22, ty24, ty27, ty29, ty47, ty64, ty67, ty69, ty73, hE1.get, hE2.get, hE3.get, hE4.get, hE5.get, hE6.get, hE7.get, hE8.get, hE9.get, hE10.get, hE11.get, hE12.get, hE13.get, hE14.get, hE15.get, hE16.get, hE17.get, hE18.get, hK19, hK20, hK21, kn, hE22.get, hK23, kr]
  refine (Law.hd_Record _ (by first | omega | (simp only [AH.size_new, AH.size_put] <;> omega)) rgk1 _ _ rgk2 _ _ _ 1 (a23k1.ext (by ((repeat' (first | exact Ext.refl _ | assumption | refine Ext.trans ?_ (Ext.new _ _) | refine Ext.put ?_ ?_ _ | refine Ext.trans ?_ (by assumption))) <;> (first | omega | (simp only [AH.size_new, AH.size_put] <;> omega))))) (a23k2.ext (by ((repeat' (first | exact Ext.refl _ | assumption | refine Ext.trans ?_ (Ext.new _ _) | refine Ext.put ?_ ?_ _ | refine Ext.trans ?_ (by assumption))) <;> (first | omega | (simp only [AH.size_new, AH.size_put] <;> omega))))) ⟨by omega, by omega⟩).mono ?_
  rintro r B24 ⟨rfl, hE24⟩
  have v24 := hE24.size
  try simp only [AH.size_new, AH.size_put] at v24
  simp (maxSteps := 2000000) (disch := first | omega | (simp only [AH.size_new, AH.size_put] <;> omega) | fail) only [amR Tryd.prog ro X, amS, seval, reduceCtorEq, ty3, ty4, ty9, ty22, ty24, ty27, ty29, ty47, ty64, ty67, ty69, ty73, hE1.get, hE2.get, hE3.get, hE4.get, hE5.get, hE6.get, hE7.get, hE8.get, hE9.get, hE10.get, hE11.get, hE12.get, hE13.get, hE14.get, hE15.get, hE16.get, hE17.get, hE18.get, hK19, hK20, hK21, kn, hE22.get, hK23, kr, hE24.get]
  refine Wp.runG [1, 3] (by kernel_rfl) (.inr (by intro v e A h; simp only [amK, amQ, thenQ, blockQ, endQ, reduceCtorEq, false_and] at h)) ?_
  simp (maxSteps := 2000000) (disch := first | omega | (simp only [AH.size_new, AH.size_put] <;> omega) | fail) only [amR Tryd.prog ro X, amS, seval, reduceCtorEq, ty3, ty4, ty9, ty22, ty24, ty27, ty29, ty47, ty64, ty67, ty69, ty73, hE1.get, hE2.get, hE3.get, hE4.get, hE5.get, hE6.get, hE7.get, hE8.get, hE9.get, hE10.get, hE11.get, hE12.get, hE13.get, hE14.get, hE15.get, hE16.get, hE17.get, hE18.get, hK19, hK20, hK21, kn, hE22.get, hK23, kr, hE24.get]
  refine (Law.to_Program _ (by first | omega | (simp only [AH.size_new, AH.size_put] <;> omega)) x0 _ _ (Dat.ext h0 (by ((repeat' (first | exact Ext.refl _ | assumption | refine Ext.trans ?_ (Ext.new _ _) | refine Ext.put ?_ ?_ _ | refine Ext.trans ?_ (by assumption))) <;> (first | omega | (simp only [AH.size_new, AH.size_put] <;> omega))))) (by omega)).mono ?_
  rintro r B25 ⟨cc, H0z, rfl, qq, f0z, hE25⟩
  obtain ⟨t0k1z, G0k1z, rfl, hH0z, q0k1z⟩ := rep_Program.1 qq
  have v25 := hE25.size
  try simp only [AH.size_new, AH.size_put] at v25
  simp (maxSteps := 2000000) (disch := first | omega | (simp only [AH.size_new, AH.size_put] <;> omega) | fail) only [amR Tryd.prog ro X, amS, seval, reduceCtorEq, ty3, ty4, ty9, ty22, ty24, ty27, ty29, ty47, ty64, ty67, ty69, ty73, hE1.get, hE2.get, hE3.get, hE4.get, hE5.get, hE6.get, hE7.get, hE8.get, hE9.get, hE10.get, hE11.get, hE12.get, hE13.get, hE14.get, hE15.get, hE16.get, hE17.get, hE18.get, hK19, hK20, hK21, kn, hE22.get, hK23, kr, hE24.get]
  refine ⟨fun b hb => hE25.get b hb, ?_⟩
  try simp (maxSteps := 2000000) (disch := first | omega | (simp only [AH.size_new, AH.size_put] <;> omega) | fail) only [amR Tryd.prog ro X, amS, seval, reduceCtorEq, ty3, ty4, ty9, ty22, ty24, ty27, ty29, ty47, ty64, ty67, ty69, ty73, hE1.get, hE2.get, hE3.get, hE4.get, hE5.get, hE6.get, hE7.get, hE8.get, hE9.get, hE10.get, hE11.get, hE12.get, hE13.get, hE14.get, hE15.get, hE16.get, hE17.get, hE18.get, hK19, hK20, hK21, kn, hE22.get, hK23, kr, hE24.get, hE25.get]
  refine (Law.toL_Seen _ (by first | omega | (simp only [AH.size_new, AH.size_put] <;> omega)) s1 x1 _ (h1.ext (by ((repeat' (first | exact Ext.refl _ | assumption | refine Ext.trans ?_ (Ext.new _ _) | refine Ext.put ?_ ?_ _ | refine Ext.trans ?_ (by assumption))) <;> (first | omega | (simp only [AH.size_new, AH.size_put] <;> omega))))) (by omega)).mono ?_
  rintro r B26 ⟨t1k1z, H1z, rfl, q1k1z, f1z, hE26⟩
  have v26 := hE26.size
  try simp only [AH.size_new, AH.size_put] at v26
  simp (maxSteps := 2000000) (disch := first | omega | (simp only [AH.size_new, AH.size_put] <;> omega) | fail) only [amR Tryd.prog ro X, amS, seval, reduceCtorEq, ty3, ty4, ty9, ty22, ty24, ty27, ty29, ty47, ty64, ty67, ty69, ty73, hE1.get, hE2.get, hE3.get, hE4.get, hE5.get, hE6.get, hE7.get, hE8.get, hE9.get, hE10.get, hE11.get, hE12.get, hE13.get, hE14.get, hE15.get, hE16.get, hE17.get, hE18.get, hK19, hK20, hK21, kn, hE22.get, hK23, kr, hE24.get, hE25.get]
  refine ⟨fun b hb => hE26.get b hb, ?_⟩
  try simp (maxSteps := 2000000) (disch := first | omega | (simp only [AH.size_new, AH.size_put] <;> omega) | fail) only [amR Tryd.prog ro X, amS, seval, reduceCtorEq, ty3, ty4, ty9, ty22, ty24, ty27, ty29, ty47, ty64, ty67, ty69, ty73, hE1.get, hE2.get, hE3.get, hE4.get, hE5.get, hE6.get, hE7.get, hE8.get, hE9.get, hE10.get, hE11.get, hE12.get, hE13.get, hE14.get, hE15.get, hE16.get, hE17.get, hE18.get, hK19, hK20, hK21, kn, hE22.get, hK23, kr, hE24.get, hE25.get, hE26.get]
  refine (Law.to_Result _ (by first | omega | (simp only [AH.size_new, AH.size_put] <;> omega)) x2 _ _ (Dat.ext h2 (by ((repeat' (first | exact Ext.refl _ | assumption | refine Ext.trans ?_ (Ext.new _ _) | refine Ext.put ?_ ?_ _ | refine Ext.trans ?_ (by assumption))) <;> (first | omega | (simp only [AH.size_new, AH.size_put] <;> omega))))) (by omega)).mono ?_
  rintro r B27 ⟨cc, H2z, rfl, qq, f2z, hE27⟩
  obtain ⟨t2k1z, G2k1z, rfl, hH2z, y2k1z, q2k1z⟩ := rep_Result.1 qq
  have u2k1z := big_lt y2k1z
  have v27 := hE27.size
  try simp only [AH.size_new, AH.size_put] at v27
  simp (maxSteps := 2000000) (disch := first | omega | (simp only [AH.size_new, AH.size_put] <;> omega) | fail) only [amR Tryd.prog ro X, amS, seval, reduceCtorEq, ty3, ty4, ty9, ty22, ty24, ty27, ty29, ty47, ty64, ty67, ty69, ty73, hE1.get, hE2.get, hE3.get, hE4.get, hE5.get, hE6.get, hE7.get, hE8.get, hE9.get, hE10.get, hE11.get, hE12.get, hE13.get, hE14.get, hE15.get, hE16.get, hE17.get, hE18.get, hK19, hK20, hK21, kn, hE22.get, hK23, kr, hE24.get, hE25.get, hE26.get, hE27.get]
  refine (Note.impl_a _ (by first | omega | (simp only [AH.size_new, AH.size_put] <;> omega)) (hT.ext (by ((repeat' (first | exact Ext.refl _ | assumption | refine Ext.trans ?_ (Ext.new _ _) | refine Ext.put ?_ ?_ _ | refine Ext.trans ?_ (by assumption))) <;> (first | omega | (simp only [AH.size_new, AH.size_put] <;> omega))))) t0k1z x0 _ (q0k1z.ext (by ((repeat' (first | exact Ext.refl _ | assumption | refine Ext.trans ?_ (Ext.new _ _) | refine Ext.put ?_ ?_ _ | refine Ext.trans ?_ (by assumption))) <;> (first | omega | (simp only [AH.size_new, AH.size_put] <;> omega))))) (by omega) t1k1z x1 _ (q1k1z.ext (by ((repeat' (first | exact Ext.refl _ | assumption | refine Ext.trans ?_ (Ext.new _ _) | refine Ext.put ?_ ?_ _ | refine Ext.trans ?_ (by assumption))) <;> (first | omega | (simp only [AH.size_new, AH.size_put] <;> omega))))) x2.1 x2.2.1 t2k1z x2.2.2 _ (q2k1z.ext (by ((repeat' (first | exact Ext.refl _ | assumption | refine Ext.trans ?_ (Ext.new _ _) | refine Ext.put ?_ ?_ _ | refine Ext.trans ?_ (by assumption))) <;> (first | omega | (simp only [AH.size_new, AH.size_put] <;> omega))))) u2k1z x3).mono ?_
  rintro r B28 ⟨cc, Fh, rfl, qq, fh, hE28⟩
  rw [← hy] at qq
  obtain ⟨rhk1, rhk2, Rhk1, Rhk2, rfl, hRh, phk1, phk2, ohk1⟩ := rep_Record.1 qq
  have v28 := hE28.size
  try simp only [AH.size_new, AH.size_put] at v28
  simp (maxSteps := 2000000) (disch := first | omega | (simp only [AH.size_new, AH.size_put] <;> omega) | fail) only [amR Tryd.prog ro X, amS, seval, reduceCtorEq, ty3, ty4, ty9, ty22, ty24, ty27, ty29, ty47, ty64, ty67, ty69, ty73, hE1.get, hE2.get, hE3.get, hE4.get, hE5.get, hE6.get, hE7.get, hE8.get, hE9.get, hE10.get, hE11.get, hE12.get, hE13.get, hE14.get, hE15.get, hE16.get, hE17.get, hE18.get, hK19, hK20, hK21, kn, hE22.get, hK23, kr, hE24.get, hE25.get, hE26.get, hE27.get, hE28.get]
  refine (Law.eq_Record _ (by first | omega | (simp only [AH.size_new, AH.size_put] <;> omega)) y y _ _ _ _ (rep_Record.2 ⟨rhk1, rhk2, _, _, rfl, rfl, phk1.ext (by ((repeat' (first | exact Ext.refl _ | assumption | refine Ext.trans ?_ (Ext.new _ _) | refine Ext.put ?_ ?_ _ | refine Ext.trans ?_ (by assumption))) <;> (first | omega | (simp only [AH.size_new, AH.size_put] <;> omega)))), phk2.ext (by ((repeat' (first | exact Ext.refl _ | assumption | refine Ext.trans ?_ (Ext.new _ _) | refine Ext.put ?_ ?_ _ | refine Ext.trans ?_ (by assumption))) <;> (first | omega | (simp only [AH.size_new, AH.size_put] <;> omega)))), ohk1⟩) (rep_Record.2 ⟨rwk1, rwk2, _, _, rfl, rfl, pwk1.ext (by ((repeat' (first | exact Ext.refl _ | assumption | refine Ext.trans ?_ (Ext.new _ _) | refine Ext.put ?_ ?_ _ | refine Ext.trans ?_ (by assumption))) <;> (first | omega | (simp only [AH.size_new, AH.size_put] <;> omega)))), pwk2.ext (by ((repeat' (first | exact Ext.refl _ | assumption | refine Ext.trans ?_ (Ext.new _ _) | refine Ext.put ?_ ?_ _ | refine Ext.trans ?_ (by assumption))) <;> (first | omega | (simp only [AH.size_new, AH.size_put] <;> omega)))), owk1⟩) (by omega)).mono ?_
  rintro r B29 ⟨rfl, hE29⟩
  have v29 := hE29.size
  try simp only [AH.size_new, AH.size_put] at v29
  simp (maxSteps := 2000000) (disch := first | omega | (simp only [AH.size_new, AH.size_put] <;> omega) | fail) only [amR Tryd.prog ro X, amS, seval, reduceCtorEq, ty3, ty4, ty9, ty22, ty24, ty27, ty29, ty47, ty64, ty67, ty69, ty73, hE1.get, hE2.get, hE3.get, hE4.get, hE5.get, hE6.get, hE7.get, hE8.get, hE9.get, hE10.get, hE11.get, hE12.get, hE13.get, hE14.get, hE15.get, hE16.get, hE17.get, hE18.get, hK19, hK20, hK21, kn, hE22.get, hK23, kr, hE24.get, hE25.get, hE26.get, hE27.get, hE28.get, hE29.get]
  refine (Law.hd_Record _ (by first | omega | (simp only [AH.size_new, AH.size_put] <;> omega)) rgk1 _ _ rgk2 _ _ _ 1 (a23k1.ext (by ((repeat' (first | exact Ext.refl _ | assumption | refine Ext.trans ?_ (Ext.new _ _) | refine Ext.put ?_ ?_ _ | refine Ext.trans ?_ (by assumption))) <;> (first | omega | (simp only [AH.size_new, AH.size_put] <;> omega))))) (a23k2.ext (by ((repeat' (first | exact Ext.refl _ | assumption | refine Ext.trans ?_ (Ext.new _ _) | refine Ext.put ?_ ?_ _ | refine Ext.trans ?_ (by assumption))) <;> (first | omega | (simp only [AH.size_new, AH.size_put] <;> omega))))) ⟨by omega, by omega⟩).mono ?_
  rintro r B30 ⟨rfl, hE30⟩
  have v30 := hE30.size
  try simp only [AH.size_new, AH.size_put] at v30
  simp (maxSteps := 2000000) (disch := first | omega | (simp only [AH.size_new, AH.size_put] <;> omega) | fail) only [amR Tryd.prog ro X, amS, seval, reduceCtorEq, ty3, ty4, ty9, ty22, ty24, ty27, ty29, ty47, ty64, ty67, ty69, ty73, hE1.get, hE2.get, hE3.get, hE4.get, hE5.get, hE6.get, hE7.get, hE8.get, hE9.get, hE10.get, hE11.get, hE12.get, hE13.get, hE14.get, hE15.get, hE16.get, hE17.get, hE18.get, hK19, hK20, hK21, kn, hE22.get, hK23, kr, hE24.get, hE25.get, hE26.get, hE27.get, hE28.get, hE29.get, hE30.get]
end Go.Proofs.YtcdnlghlbljopaaDoor.Amu.LNote
