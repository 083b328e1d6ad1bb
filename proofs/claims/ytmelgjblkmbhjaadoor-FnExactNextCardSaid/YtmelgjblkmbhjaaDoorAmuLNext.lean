/- The exact law on Next, reckoned. -/
import Derived.Test.YtmelgjblkmbhjaaDoorAmuTurn
import Derived.Test.YtmelgjblkmbhjaaDoorAmuSpecN
import Derived.Test.YtmelgjblkmbhjaaDoorAmuLawA
namespace Go.Proofs.YtmelgjblkmbhjaaDoor.Amu.LNext
open Go Go.AM Go.Proofs
set_option linter.unusedVariables false
set_option linter.unusedSimpArgs false
theorem ty3 : tKind Tryd.prog 3 = some (.int .i64) ∧ tSize Tryd.prog 3 = some 1 ∧ tAgg Tryd.prog 3 = some false ∧ tZero Tryd.prog 3 = some (.int .i64 0) := ⟨by kernel_rfl, by kernel_rfl, by kernel_rfl, by kernel_rfl⟩
theorem ty4 : tKind Tryd.prog 4 = some (.bool) ∧ tSize Tryd.prog 4 = some 1 ∧ tAgg Tryd.prog 4 = some false ∧ tZero Tryd.prog 4 = some (.bool false) := ⟨by kernel_rfl, by kernel_rfl, by kernel_rfl, by kernel_rfl⟩
theorem ty9 : tKind Tryd.prog 9 = some (.str) ∧ tSize Tryd.prog 9 = some 1 ∧ tAgg Tryd.prog 9 = some false ∧ tZero Tryd.prog 9 = some (.string ByteArray.empty) := ⟨by kernel_rfl, by kernel_rfl, by kernel_rfl, by kernel_rfl⟩
theorem ty22 : tKind Tryd.prog 22 = some (.slice) ∧ tSize Tryd.prog 22 = some 1 ∧ tAgg Tryd.prog 22 = some false ∧ tZero Tryd.prog 22 = some (.slice none 0 0) ∧ tElem Tryd.prog 22 = some 197 ∧ tElemSize Tryd.prog 22 = some 3 ∧ tBytes Tryd.prog 22 = false := ⟨by kernel_rfl, by kernel_rfl, by kernel_rfl, by kernel_rfl, by kernel_rfl, by kernel_rfl, by kernel_rfl⟩
theorem ty24 : tKind Tryd.prog 24 = some (.struct) ∧ tSize Tryd.prog 24 = some 1 ∧ tAgg Tryd.prog 24 = some true ∧ tZero Tryd.prog 24 = some (.agg #[.slice none 0 0]) ∧ tField Tryd.prog 24 0 = some (0, 22) ∧ tPlaces Tryd.prog 24 = some [(0, 1)] := ⟨by kernel_rfl, by kernel_rfl, by kernel_rfl, by kernel_rfl, by kernel_rfl, by kernel_rfl⟩
theorem ty27 : tKind Tryd.prog 27 = some (.slice) ∧ tSize Tryd.prog 27 = some 1 ∧ tAgg Tryd.prog 27 = some false ∧ tZero Tryd.prog 27 = some (.slice none 0 0) ∧ tElem Tryd.prog 27 = some 106 ∧ tElemSize Tryd.prog 27 = some 3 ∧ tBytes Tryd.prog 27 = false := ⟨by kernel_rfl, by kernel_rfl, by kernel_rfl, by kernel_rfl, by kernel_rfl, by kernel_rfl, by kernel_rfl⟩
theorem ty29 : tKind Tryd.prog 29 = some (.struct) ∧ tSize Tryd.prog 29 = some 1 ∧ tAgg Tryd.prog 29 = some true ∧ tZero Tryd.prog 29 = some (.agg #[.slice none 0 0]) ∧ tField Tryd.prog 29 0 = some (0, 27) ∧ tPlaces Tryd.prog 29 = some [(0, 1)] := ⟨by kernel_rfl, by kernel_rfl, by kernel_rfl, by kernel_rfl, by kernel_rfl, by kernel_rfl⟩
theorem ty36 : tKind Tryd.prog 36 = some (.struct) ∧ tSize Tryd.prog 36 = some 6 ∧ tAgg Tryd.prog 36 = some true ∧ tZero Tryd.prog 36 = some (.agg #[.bool false, .int .i64 0, .string ByteArray.empty, .bool false, .string ByteArray.empty, .int .i64 0]) ∧ tField Tryd.prog 36 0 = some (0, 4) ∧ tField Tryd.prog 36 1 = some (1, 3) ∧ tField Tryd.prog 36 2 = some (2, 9) ∧ tField Tryd.prog 36 3 = some (3, 4) ∧ tField Tryd.prog 36 4 = some (4, 9) ∧ tField Tryd.prog 36 5 = some (5, 3) ∧ tPlaces Tryd.prog 36 = some [(0, 1), (1, 1), (2, 1), (3, 1), (4, 1), (5, 1)] := ⟨by kernel_rfl, by kernel_rfl, by kernel_rfl, by kernel_rfl, by kernel_rfl, by kernel_rfl, by kernel_rfl, by kernel_rfl, by kernel_rfl, by kernel_rfl, by kernel_rfl⟩

variable {ro : Nat} {X : FuncId → List Value → AH → ARes → AH → Prop}
set_option maxRecDepth 10000
theorem law_a (A : AH) (hro : ro ≤ A.size) (hT : Tab 0 A) (hP : Pow 1 A) (x0 : TProgram) (c0 : List Value) (F0 : List Nat) (h0 : Dat.rep A x0 c0 F0) (b0 : Mk.bd x0) (s1 : Sl) (x1 : List TReply) (F1 : List Nat) (h1 : SlR A s1 x1 F1) (b1 : Mk.bd x1) :
    ACalls Tryd.prog ro X 4 [.agg c0.toArray, s1.v] A (fun r _ => r = .ret (.bool true)) := by
  refine ACalls.enterQ (rs := [.tmp 4]) Tryd.func4 rfl (by kernel_rfl) rfl ?_
  obtain ⟨yz1, yz2⟩ := nextR_sz x0 x1
  have yz := turn_sz x0 x1
  obtain ⟨y, hy⟩ : ∃ y, y = nextR x0 x1 := ⟨_, rfl⟩
  rw [← hy] at yz yz1 yz2
  have hh0 := h0
  obtain ⟨w0k1, _, rfl, _, _⟩ := rep_Program.1 hh0
  simp (maxSteps := 2000000) (disch := first | omega | (simp only [AH.size_new, AH.size_put] <;> omega) | fail) only [amR Tryd.prog ro X, amS, seval, reduceCtorEq, ty3, ty4, ty9, ty22, ty24, ty27, ty29, ty36]
  refine (Law.sz_Program _ (by first | omega | (simp only [AH.size_new, AH.size_put] <;> omega)) x0 _ _ (Dat.ext h0 (by ((repeat' (first | exact Ext.refl _ | assumption | refine Ext.trans ?_ (Ext.new _ _) | refine Ext.put ?_ ?_ _ | refine Ext.trans ?_ (by assumption))) <;> (first | omega | (simp only [AH.size_new, AH.size_put] <;> omega))))) b0 (1048576) (by omega)).mono ?_
  rintro r B1 ⟨rfl, hE1⟩
  have v1 := hE1.size
  try simp only [AH.size_new, AH.size_put] at v1
  by_cases z0 : 1048576 - (Mk.sz x0 : Nat) < (0 : Int)
  · rw [szR_neg z0]
    simp (maxSteps := 2000000) (disch := first | omega | (simp only [AH.size_new, AH.size_put] <;> omega) | fail) only [amR Tryd.prog ro X, amS, seval, reduceCtorEq, ty3, ty4, ty9, ty22, ty24, ty27, ty29, ty36, hE1.get]
  rw [szR_pos z0]
  simp (maxSteps := 2000000) (disch := first | omega | (simp only [AH.size_new, AH.size_put] <;> omega) | fail) only [amR Tryd.prog ro X, amS, seval, reduceCtorEq, ty3, ty4, ty9, ty22, ty24, ty27, ty29, ty36, hE1.get, z0]
  refine (Law.szL_Reply _ (by first | omega | (simp only [AH.size_new, AH.size_put] <;> omega)) s1 x1 _ (h1.ext (by ((repeat' (first | exact Ext.refl _ | assumption | refine Ext.trans ?_ (Ext.new _ _) | refine Ext.put ?_ ?_ _ | refine Ext.trans ?_ (by assumption))) <;> (first | omega | (simp only [AH.size_new, AH.size_put] <;> omega))))) b1 (1048576 - (Mk.sz x0 : Nat)) (by omega)).mono ?_
  rintro r B2 ⟨rfl, hE2⟩
  have v2 := hE2.size
  try simp only [AH.size_new, AH.size_put] at v2
  by_cases z1 : 1048576 - (Mk.sz x0 : Nat) - (szL Mk.sz x1 : Nat) < (0 : Int)
  · rw [szR_neg z1]
    simp (maxSteps := 2000000) (disch := first | omega | (simp only [AH.size_new, AH.size_put] <;> omega) | fail) only [amR Tryd.prog ro X, amS, seval, reduceCtorEq, ty3, ty4, ty9, ty22, ty24, ty27, ty29, ty36, hE1.get, hE2.get]
  rw [szR_pos z1]
  simp (maxSteps := 2000000) (disch := first | omega | (simp only [AH.size_new, AH.size_put] <;> omega) | fail) only [amR Tryd.prog ro X, amS, seval, reduceCtorEq, ty3, ty4, ty9, ty22, ty24, ty27, ty29, ty36, hE1.get, hE2.get, z1]
  refine (Law.to_Program _ (by first | omega | (simp only [AH.size_new, AH.size_put] <;> omega)) x0 _ _ (Dat.ext h0 (by ((repeat' (first | exact Ext.refl _ | assumption | refine Ext.trans ?_ (Ext.new _ _) | refine Ext.put ?_ ?_ _ | refine Ext.trans ?_ (by assumption))) <;> (first | omega | (simp only [AH.size_new, AH.size_put] <;> omega))))) (by omega)).mono ?_
  rintro r B3 ⟨cc, H0w, rfl, qq, f0w, hE3⟩
  obtain ⟨t0k1w, G0k1w, rfl, hH0w, q0k1w⟩ := rep_Program.1 qq
  have v3 := hE3.size
  try simp only [AH.size_new, AH.size_put] at v3
  simp (maxSteps := 2000000) (disch := first | omega | (simp only [AH.size_new, AH.size_put] <;> omega) | fail) only [amR Tryd.prog ro X, amS, seval, reduceCtorEq, ty3, ty4, ty9, ty22, ty24, ty27, ty29, ty36, hE1.get, hE2.get, hE3.get]
  refine (Law.toL_Reply _ (by first | omega | (simp only [AH.size_new, AH.size_put] <;> omega)) s1 x1 _ (h1.ext (by ((repeat' (first | exact Ext.refl _ | assumption | refine Ext.trans ?_ (Ext.new _ _) | refine Ext.put ?_ ?_ _ | refine Ext.trans ?_ (by assumption))) <;> (first | omega | (simp only [AH.size_new, AH.size_put] <;> omega))))) (by omega)).mono ?_
  rintro r B4 ⟨t1k1w, H1w, rfl, q1k1w, f1w, hE4⟩
  have v4 := hE4.size
  try simp only [AH.size_new, AH.size_put] at v4
  simp (maxSteps := 2000000) (disch := first | omega | (simp only [AH.size_new, AH.size_put] <;> omega) | fail) only [amR Tryd.prog ro X, amS, seval, reduceCtorEq, ty3, ty4, ty9, ty22, ty24, ty27, ty29, ty36, hE1.get, hE2.get, hE3.get, hE4.get]
  refine (SpecN.next_a _ (by first | omega | (simp only [AH.size_new, AH.size_put] <;> omega)) t0k1w x0 _ (q0k1w.ext (by ((repeat' (first | exact Ext.refl _ | assumption | refine Ext.trans ?_ (Ext.new _ _) | refine Ext.put ?_ ?_ _ | refine Ext.trans ?_ (by assumption))) <;> (first | omega | (simp only [AH.size_new, AH.size_put] <;> omega))))) (by have := b0.1; omega) t1k1w x1 _ (q1k1w.ext (by ((repeat' (first | exact Ext.refl _ | assumption | refine Ext.trans ?_ (Ext.new _ _) | refine Ext.put ?_ ?_ _ | refine Ext.trans ?_ (by assumption))) <;> (first | omega | (simp only [AH.size_new, AH.size_put] <;> omega))))) (by have := szL_length Mk.sz x1; omega)).mono ?_
  rintro r B5 ⟨rfl, hE5⟩
  have v5 := hE5.size
  try simp only [AH.size_new, AH.size_put] at v5
  rw [← hy]
  unfold Mach.tc
  simp (maxSteps := 2000000) (disch := first | omega | (simp only [AH.size_new, AH.size_put] <;> omega) | fail) only [amR Tryd.prog ro X, amS, seval, reduceCtorEq, ty3, ty4, ty9, ty22, ty24, ty27, ty29, ty36, hE1.get, hE2.get, hE3.get, hE4.get, hE5.get]
  refine (Law.to_Program _ (by first | omega | (simp only [AH.size_new, AH.size_put] <;> omega)) x0 _ _ (Dat.ext h0 (by ((repeat' (first | exact Ext.refl _ | assumption | refine Ext.trans ?_ (Ext.new _ _) | refine Ext.put ?_ ?_ _ | refine Ext.trans ?_ (by assumption))) <;> (first | omega | (simp only [AH.size_new, AH.size_put] <;> omega))))) (by omega)).mono ?_
  rintro r B6 ⟨cc, H0x, rfl, qq, f0x, hE6⟩
  obtain ⟨t0k1x, G0k1x, rfl, hH0x, q0k1x⟩ := rep_Program.1 qq
  have v6 := hE6.size
  try simp only [AH.size_new, AH.size_put] at v6
  simp (maxSteps := 2000000) (disch := first | omega | (simp only [AH.size_new, AH.size_put] <;> omega) | fail) only [amR Tryd.prog ro X, amS, seval, reduceCtorEq, ty3, ty4, ty9, ty22, ty24, ty27, ty29, ty36, hE1.get, hE2.get, hE3.get, hE4.get, hE5.get, hE6.get]
  refine (Law.toL_Reply _ (by first | omega | (simp only [AH.size_new, AH.size_put] <;> omega)) s1 x1 _ (h1.ext (by ((repeat' (first | exact Ext.refl _ | assumption | refine Ext.trans ?_ (Ext.new _ _) | refine Ext.put ?_ ?_ _ | refine Ext.trans ?_ (by assumption))) <;> (first | omega | (simp only [AH.size_new, AH.size_put] <;> omega))))) (by omega)).mono ?_
  rintro r B7 ⟨t1k1x, H1x, rfl, q1k1x, f1x, hE7⟩
  have v7 := hE7.size
  try simp only [AH.size_new, AH.size_put] at v7
  simp (maxSteps := 2000000) (disch := first | omega | (simp only [AH.size_new, AH.size_put] <;> omega) | fail) only [amR Tryd.prog ro X, amS, seval, reduceCtorEq, ty3, ty4, ty9, ty22, ty24, ty27, ty29, ty36, hE1.get, hE2.get, hE3.get, hE4.get, hE5.get, hE6.get, hE7.get]
  refine (Turn.next_a _ (by first | omega | (simp only [AH.size_new, AH.size_put] <;> omega)) (hT.ext (by ((repeat' (first | exact Ext.refl _ | assumption | refine Ext.trans ?_ (Ext.new _ _) | refine Ext.put ?_ ?_ _ | refine Ext.trans ?_ (by assumption))) <;> (first | omega | (simp only [AH.size_new, AH.size_put] <;> omega))))) (hP.ext (by ((repeat' (first | exact Ext.refl _ | assumption | refine Ext.trans ?_ (Ext.new _ _) | refine Ext.put ?_ ?_ _ | refine Ext.trans ?_ (by assumption))) <;> (first | omega | (simp only [AH.size_new, AH.size_put] <;> omega))))) t0k1x x0 _ (q0k1x.ext (by ((repeat' (first | exact Ext.refl _ | assumption | refine Ext.trans ?_ (Ext.new _ _) | refine Ext.put ?_ ?_ _ | refine Ext.trans ?_ (by assumption))) <;> (first | omega | (simp only [AH.size_new, AH.size_put] <;> omega))))) t1k1x x1 _ (q1k1x.ext (by ((repeat' (first | exact Ext.refl _ | assumption | refine Ext.trans ?_ (Ext.new _ _) | refine Ext.put ?_ ?_ _ | refine Ext.trans ?_ (by assumption))) <;> (first | omega | (simp only [AH.size_new, AH.size_put] <;> omega))))) (by have := szL_length Mk.sz x1; omega)).mono ?_
  rintro r B8 ⟨rfl, hE8⟩
  have v8 := hE8.size
  try simp only [AH.size_new, AH.size_put] at v8
  rw [← hy]
  unfold Mach.tc
  simp (maxSteps := 2000000) (disch := first | omega | (simp only [AH.size_new, AH.size_put] <;> omega) | fail) only [amR Tryd.prog ro X, amS, seval, reduceCtorEq, ty3, ty4, ty9, ty22, ty24, ty27, ty29, ty36, hE1.get, hE2.get, hE3.get, hE4.get, hE5.get, hE6.get, hE7.get, hE8.get]
  refine (Law.eq_Turn _ (by first | omega | (simp only [AH.size_new, AH.size_put] <;> omega)) y y _ _ _ _ (rep_Turn.2 ⟨rfl, rfl, by unfold BIG; omega, by unfold BIG; omega⟩) (rep_Turn.2 ⟨rfl, rfl, by unfold BIG; omega, by unfold BIG; omega⟩) yz).mono ?_
  rintro r B9 ⟨rfl, hE9⟩
  have v9 := hE9.size
  try simp only [AH.size_new, AH.size_put] at v9
  simp (maxSteps := 2000000) (disch := first | omega | (simp only [AH.size_new, AH.size_put] <;> omega) | fail) only [amR Tryd.prog ro X, amS, seval, reduceCtorEq, ty3, ty4, ty9, ty22, ty24, ty27, ty29, ty36, hE1.get, hE2.get, hE3.get, hE4.get, hE5.get, hE6.get, hE7.get, hE8.get, hE9.get]
  refine Wp.runG [2] (by kernel_rfl) (.inl (by kernel_rfl)) ?_
  simp (maxSteps := 2000000) (disch := first | omega | (simp only [AH.size_new, AH.size_put] <;> omega) | fail) only [amR Tryd.prog ro X, amS, seval, reduceCtorEq, ty3, ty4, ty9, ty22, ty24, ty27, ty29, ty36, hE1.get, hE2.get, hE3.get, hE4.get, hE5.get, hE6.get, hE7.get, hE8.get, hE9.get]
  refine (Law.to_Program _ (by first | omega | (simp only [AH.size_new, AH.size_put] <;> omega)) x0 _ _ (Dat.ext h0 (by ((repeat' (first | exact Ext.refl _ | assumption | refine Ext.trans ?_ (Ext.new _ _) | refine Ext.put ?_ ?_ _ | refine Ext.trans ?_ (by assumption))) <;> (first | omega | (simp only [AH.size_new, AH.size_put] <;> omega))))) (by omega)).mono ?_
  rintro r B10 ⟨cc, H0y, rfl, qq, f0y, hE10⟩
  obtain ⟨t0k1y, G0k1y, rfl, hH0y, q0k1y⟩ := rep_Program.1 qq
  have v10 := hE10.size
  try simp only [AH.size_new, AH.size_put] at v10
  simp (maxSteps := 2000000) (disch := first | omega | (simp only [AH.size_new, AH.size_put] <;> omega) | fail) only [amR Tryd.prog ro X, amS, seval, reduceCtorEq, ty3, ty4, ty9, ty22, ty24, ty27, ty29, ty36, hE1.get, hE2.get, hE3.get, hE4.get, hE5.get, hE6.get, hE7.get, hE8.get, hE9.get]
  refine ⟨fun b hb => hE10.get b hb, ?_⟩
  try simp (maxSteps := 2000000) (disch := first | omega | (simp only [AH.size_new, AH.size_put] <;> omega) | fail) only [amR Tryd.prog ro X, amS, seval, reduceCtorEq, ty3, ty4, ty9, ty22, ty24, ty27, ty29, ty36, hE1.get, hE2.get, hE3.get, hE4.get, hE5.get, hE6.get, hE7.get, hE8.get, hE9.get, hE10.get]
  refine (Law.eq_Program _ (by first | omega | (simp only [AH.size_new, AH.size_put] <;> omega)) x0 x0 _ _ _ _ (rep_Program.2 ⟨t0k1x, _, rfl, rfl, q0k1x.ext (by ((repeat' (first | exact Ext.refl _ | assumption | refine Ext.trans ?_ (Ext.new _ _) | refine Ext.put ?_ ?_ _ | refine Ext.trans ?_ (by assumption))) <;> (first | omega | (simp only [AH.size_new, AH.size_put] <;> omega))))⟩) (rep_Program.2 ⟨t0k1y, _, rfl, rfl, q0k1y.ext (by ((repeat' (first | exact Ext.refl _ | assumption | refine Ext.trans ?_ (Ext.new _ _) | refine Ext.put ?_ ?_ _ | refine Ext.trans ?_ (by assumption))) <;> (first | omega | (simp only [AH.size_new, AH.size_put] <;> omega))))⟩) (by omega)).mono ?_
  rintro r B11 ⟨rfl, hE11⟩
  have v11 := hE11.size
  try simp only [AH.size_new, AH.size_put] at v11
  simp (maxSteps := 2000000) (disch := first | omega | (simp only [AH.size_new, AH.size_put] <;> omega) | fail) only [amR Tryd.prog ro X, amS, seval, reduceCtorEq, ty3, ty4, ty9, ty22, ty24, ty27, ty29, ty36, hE1.get, hE2.get, hE3.get, hE4.get, hE5.get, hE6.get, hE7.get, hE8.get, hE9.get, hE10.get, hE11.get]
  refine (Law.toL_Reply _ (by first | omega | (simp only [AH.size_new, AH.size_put] <;> omega)) s1 x1 _ (h1.ext (by ((repeat' (first | exact Ext.refl _ | assumption | refine Ext.trans ?_ (Ext.new _ _) | refine Ext.put ?_ ?_ _ | refine Ext.trans ?_ (by assumption))) <;> (first | omega | (simp only [AH.size_new, AH.size_put] <;> omega))))) (by omega)).mono ?_
  rintro r B12 ⟨t1k1y, H1y, rfl, q1k1y, f1y, hE12⟩
  have v12 := hE12.size
  try simp only [AH.size_new, AH.size_put] at v12
  simp (maxSteps := 2000000) (disch := first | omega | (simp only [AH.size_new, AH.size_put] <;> omega) | fail) only [amR Tryd.prog ro X, amS, seval, reduceCtorEq, ty3, ty4, ty9, ty22, ty24, ty27, ty29, ty36, hE1.get, hE2.get, hE3.get, hE4.get, hE5.get, hE6.get, hE7.get, hE8.get, hE9.get, hE10.get, hE11.get, hE12.get]
  refine (Law.eqL_Reply _ (by first | omega | (simp only [AH.size_new, AH.size_put] <;> omega)) t1k1x t1k1y _ _ _ _ (q1k1x.ext (by ((repeat' (first | exact Ext.refl _ | assumption | refine Ext.trans ?_ (Ext.new _ _) | refine Ext.put ?_ ?_ _ | refine Ext.trans ?_ (by assumption))) <;> (first | omega | (simp only [AH.size_new, AH.size_put] <;> omega))))) (q1k1y.ext (by ((repeat' (first | exact Ext.refl _ | assumption | refine Ext.trans ?_ (Ext.new _ _) | refine Ext.put ?_ ?_ _ | refine Ext.trans ?_ (by assumption))) <;> (first | omega | (simp only [AH.size_new, AH.size_put] <;> omega))))) (by omega)).mono ?_
  rintro r B13 ⟨rfl, hE13⟩
  have v13 := hE13.size
  try simp only [AH.size_new, AH.size_put] at v13
  simp (maxSteps := 2000000) (disch := first | omega | (simp only [AH.size_new, AH.size_put] <;> omega) | fail) only [amR Tryd.prog ro X, amS, seval, reduceCtorEq, ty3, ty4, ty9, ty22, ty24, ty27, ty29, ty36, hE1.get, hE2.get, hE3.get, hE4.get, hE5.get, hE6.get, hE7.get, hE8.get, hE9.get, hE10.get, hE11.get, hE12.get, hE13.get]
end Go.Proofs.YtmelgjblkmbhjaaDoor.Amu.LNext
