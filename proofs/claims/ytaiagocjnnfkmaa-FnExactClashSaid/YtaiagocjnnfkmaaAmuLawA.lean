/- The laws' own functions: copies, comparisons, measures of the program's data (printed by law.py). -/
import Derived.Test.YtaiagocjnnfkmaaAmP
import Derived.Test.YtaiagocjnnfkmaaAmuStrs
namespace Go.Proofs.Ytaiagocjnnfkmaa.Amu.Law
open Go Go.AM Go.Proofs
set_option linter.unusedVariables false
set_option linter.unusedSimpArgs false
theorem ty3 : tKind Try.prog 3 = some (.int .i64) ∧ tSize Try.prog 3 = some 1 ∧ tAgg Try.prog 3 = some false ∧ tZero Try.prog 3 = some (.int .i64 0) := ⟨by kernel_rfl, by kernel_rfl, by kernel_rfl, by kernel_rfl⟩
theorem ty4 : tKind Try.prog 4 = some (.bool) ∧ tSize Try.prog 4 = some 1 ∧ tAgg Try.prog 4 = some false ∧ tZero Try.prog 4 = some (.bool false) := ⟨by kernel_rfl, by kernel_rfl, by kernel_rfl, by kernel_rfl⟩
theorem ty9 : tKind Try.prog 9 = some (.str) ∧ tSize Try.prog 9 = some 1 ∧ tAgg Try.prog 9 = some false ∧ tZero Try.prog 9 = some (.string ByteArray.empty) := ⟨by kernel_rfl, by kernel_rfl, by kernel_rfl, by kernel_rfl⟩
theorem ty25 : tKind Try.prog 25 = some (.slice) ∧ tSize Try.prog 25 = some 1 ∧ tAgg Try.prog 25 = some false ∧ tZero Try.prog 25 = some (.slice none 0 0) ∧ tElem Try.prog 25 = some 9 ∧ tElemSize Try.prog 25 = some 1 ∧ tBytes Try.prog 25 = false := ⟨by kernel_rfl, by kernel_rfl, by kernel_rfl, by kernel_rfl, by kernel_rfl, by kernel_rfl, by kernel_rfl⟩
theorem ty27 : tKind Try.prog 27 = some (.struct) ∧ tSize Try.prog 27 = some 3 ∧ tAgg Try.prog 27 = some true ∧ tZero Try.prog 27 = some (.agg #[.int .i64 0, .string ByteArray.empty, .slice none 0 0]) ∧ tField Try.prog 27 0 = some (0, 3) ∧ tField Try.prog 27 1 = some (1, 9) ∧ tField Try.prog 27 2 = some (2, 25) ∧ tPlaces Try.prog 27 = some [(0, 1), (1, 1), (2, 1)] := ⟨by kernel_rfl, by kernel_rfl, by kernel_rfl, by kernel_rfl, by kernel_rfl, by kernel_rfl, by kernel_rfl, by kernel_rfl⟩
theorem ty33 : tKind Try.prog 33 = some (.struct) ∧ tSize Try.prog 33 = some 3 ∧ tAgg Try.prog 33 = some true ∧ tZero Try.prog 33 = some (.agg #[.int .i64 0, .string ByteArray.empty, .slice none 0 0]) ∧ tField Try.prog 33 0 = some (0, 3) ∧ tField Try.prog 33 1 = some (1, 9) ∧ tField Try.prog 33 2 = some (2, 25) ∧ tPlaces Try.prog 33 = some [(0, 1), (1, 1), (2, 1)] := ⟨by kernel_rfl, by kernel_rfl, by kernel_rfl, by kernel_rfl, by kernel_rfl, by kernel_rfl, by kernel_rfl, by kernel_rfl⟩

variable {ro : Nat} {X : FuncId → List Value → AH → ARes → AH → Prop}
set_option maxRecDepth 10000
theorem toL_str (A : AH) (hro : ro ≤ A.size) (s : Sl) (l : List ByteArray) (F : List Nat) (hs : SlR A s l F) (hz : szL Mk.sz l < 4294967296) :
    ACalls Try.prog ro X 22 [s.v] A (fun r A' => ∃ t G, r = .ret t.v ∧ SlR A' t l G ∧ Fresh A G A' ∧ Ext A A') :=
  Strs.toStringS_a A hro s l F hs (by have := szL_length Mk.sz l; omega)
theorem eqL_str (A : AH) (hro : ro ≤ A.size) (s t : Sl) (l k : List ByteArray) (F G : List Nat) (hs : SlR A s l F) (ht : SlR A t k G) (hz : szL Mk.sz l < 4294967296) :
    ACalls Try.prog ro X 24 [s.v, t.v] A (fun r A' => r = .ret (.bool (decide (l = k))) ∧ Ext A A') :=
  (Strs.eqStringS_a A s t l k F G hs ht (by have := szL_length Mk.sz l; omega)).mono fun r A' h => ⟨h.1, by rw [h.2]; exact Ext.refl A⟩
theorem szL_str (A : AH) (hro : ro ≤ A.size) (s : Sl) (l : List ByteArray) (F : List Nat) (hs : SlR A s l F) (hn : Mk.bd l) (left : Int) (hz : 0 ≤ left ∧ left ≤ 2097152) :
    ACalls Try.prog ro X 20 [s.v, .int .i64 left] A (fun r A' => r = .ret (.int .i64 (szR left (szL Mk.sz l))) ∧ Ext A A') :=
  (Strs.szStringS_a A s l F hs hn.1 left hz).mono fun r A' h => ⟨h.1, by rw [h.2]; exact Ext.refl A⟩
theorem to_Result (A : AH) (hro : ro ≤ A.size) (x : TResult) (cs : List Value) (F : List Nat) (h : Dat.rep A x cs F) (hz : Mk.sz x < 4294967296) :
    ACalls Try.prog ro X 18 [.agg cs.toArray] A (fun r A' => ∃ cs' F', r = .ret (.agg cs'.toArray) ∧ Dat.rep A' x cs' F' ∧ Fresh A F' A' ∧ Ext A A') := by
  obtain ⟨s1, G1, rfl, rfl, z1, h1⟩ := rep_Result.1 h
  have y1 := big_lt z1
  have hsz : Mk.sz x = 0 + (x.2.1.size + (szL Mk.sz x.2.2)) := rfl
  refine ACalls.enterQ (rs := [.cell 2 27]) Try.func18 rfl (by kernel_rfl) rfl ?_
  simp (maxSteps := 2000000) (disch := first | omega | (simp only [AH.size_new, AH.size_put] <;> omega) | fail) only [amR Try.prog ro X, amS, seval, reduceCtorEq, ty3, ty9, ty25, ty27, ty33]
  refine (toL_str _ (by first | omega | (simp only [AH.size_new, AH.size_put] <;> omega)) s1 _ _ (h1.ext (by ((repeat' (first | exact Ext.refl _ | assumption | refine Ext.trans ?_ (Ext.new _ _) | refine Ext.put ?_ ?_ _ | refine Ext.trans ?_ (by assumption))) <;> (first | omega | (simp only [AH.size_new, AH.size_put] <;> omega))))) (by omega)).mono ?_
  rintro r B1 ⟨t1, H1, rfl, q1, f1, hE1⟩
  have v1 := hE1.size
  try simp only [AH.size_new, AH.size_put] at v1
  simp (maxSteps := 2000000) (disch := first | omega | (simp only [AH.size_new, AH.size_put] <;> omega) | fail) only [amR Try.prog ro X, amS, seval, reduceCtorEq, ty3, ty9, ty25, ty27, ty33, hE1.get]
  exact ⟨_, _, rfl, rep_Result.2 ⟨t1, _, rfl, rfl, z1, q1.low f1.lo (by ((repeat' (first | exact Low.refl _ _ | assumption | refine Low.new ?_ _ | refine Low.put ?_ ?_ _ | refine Low.trans ?_ (Ext.low (by assumption) _))) <;> (first | omega | (simp only [AH.size_new, AH.size_put] <;> omega))))⟩, f1.mono (by first | omega | (simp only [AH.size_new, AH.size_put] <;> omega)) (by first | omega | (simp only [AH.size_new, AH.size_put] <;> omega)), by ((repeat' (first | exact Ext.refl _ | assumption | refine Ext.trans ?_ (Ext.new _ _) | refine Ext.put ?_ ?_ _ | refine Ext.trans ?_ (by assumption))) <;> (first | omega | (simp only [AH.size_new, AH.size_put] <;> omega)))⟩
theorem eq_Result (A : AH) (hro : ro ≤ A.size) (x y : TResult) (cs ds : List Value) (F F' : List Nat) (h : Dat.rep A x cs F) (h' : Dat.rep A y ds F') (hz : Mk.sz x < 4294967296) :
    ACalls Try.prog ro X 13 [.agg cs.toArray, .agg ds.toArray] A (fun r A' => r = .ret (.bool (decide (x = y))) ∧ Ext A A') := by
  obtain ⟨s1, G1, rfl, rfl, z1, h1⟩ := rep_Result.1 h
  obtain ⟨s1', G1', rfl, rfl, z1', h1'⟩ := rep_Result.1 h'
  have hsz : Mk.sz x = 0 + (x.2.1.size + (szL Mk.sz x.2.2)) := rfl
  refine ACalls.enterQ (rs := [.tmp 4]) Try.func13 rfl (by kernel_rfl) rfl ?_
  simp (maxSteps := 2000000) (disch := first | omega | (simp only [AH.size_new, AH.size_put] <;> omega) | fail) only [amR Try.prog ro X, amS, seval, reduceCtorEq, ty3, ty4, ty9, ty25, ty27]
  refine CondB.split (fun h => ?_) (fun h => ?_)
  · have hc : ¬ x.1 = y.1 := by simpa using h
    simp (maxSteps := 2000000) (disch := first | omega | (simp only [AH.size_new, AH.size_put] <;> omega) | fail) only [amR Try.prog ro X, amS, seval, reduceCtorEq, ty3, ty4, ty9, ty25, ty27]
    exact ⟨by rw [decide_eq_false (fun e => hc (by rw [e]))], by ((repeat' (first | exact Ext.refl _ | assumption | refine Ext.trans ?_ (Ext.new _ _) | refine Ext.put ?_ ?_ _ | refine Ext.trans ?_ (by assumption))) <;> (first | omega | (simp only [AH.size_new, AH.size_put] <;> omega)))⟩
  have c1 : x.1 = y.1 := by simpa using h
  simp (maxSteps := 2000000) (disch := first | omega | (simp only [AH.size_new, AH.size_put] <;> omega) | fail) only [amR Try.prog ro X, amS, seval, reduceCtorEq, ty3, ty4, ty9, ty25, ty27]
  refine CondB.split (fun h => ?_) (fun h => ?_)
  · have hc : ¬ x.2.1 = y.2.1 := by simpa using h
    simp (maxSteps := 2000000) (disch := first | omega | (simp only [AH.size_new, AH.size_put] <;> omega) | fail) only [amR Try.prog ro X, amS, seval, reduceCtorEq, ty3, ty4, ty9, ty25, ty27]
    exact ⟨by rw [decide_eq_false (fun e => hc (by rw [e]))], by ((repeat' (first | exact Ext.refl _ | assumption | refine Ext.trans ?_ (Ext.new _ _) | refine Ext.put ?_ ?_ _ | refine Ext.trans ?_ (by assumption))) <;> (first | omega | (simp only [AH.size_new, AH.size_put] <;> omega)))⟩
  have c2 : x.2.1 = y.2.1 := by simpa using h
  simp (maxSteps := 2000000) (disch := first | omega | (simp only [AH.size_new, AH.size_put] <;> omega) | fail) only [amR Try.prog ro X, amS, seval, reduceCtorEq, ty3, ty4, ty9, ty25, ty27]
  refine (eqL_str _ (by first | omega | (simp only [AH.size_new, AH.size_put] <;> omega)) s1 s1' _ _ _ _ (h1.ext (by ((repeat' (first | exact Ext.refl _ | assumption | refine Ext.trans ?_ (Ext.new _ _) | refine Ext.put ?_ ?_ _ | refine Ext.trans ?_ (by assumption))) <;> (first | omega | (simp only [AH.size_new, AH.size_put] <;> omega))))) (h1'.ext (by ((repeat' (first | exact Ext.refl _ | assumption | refine Ext.trans ?_ (Ext.new _ _) | refine Ext.put ?_ ?_ _ | refine Ext.trans ?_ (by assumption))) <;> (first | omega | (simp only [AH.size_new, AH.size_put] <;> omega))))) (by omega)).mono ?_
  rintro r B3 ⟨rfl, hE3⟩
  have v3 := hE3.size
  try simp only [AH.size_new, AH.size_put] at v3
  simp (maxSteps := 2000000) (disch := first | omega | (simp only [AH.size_new, AH.size_put] <;> omega) | fail) only [amR Try.prog ro X, amS, seval, reduceCtorEq, ty3, ty4, ty9, ty25, ty27, hE3.get]
  refine CondB.split (fun h => ?_) (fun h => ?_)
  · have hc : ¬ x.2.2 = y.2.2 := by simpa using h
    simp (maxSteps := 2000000) (disch := first | omega | (simp only [AH.size_new, AH.size_put] <;> omega) | fail) only [amR Try.prog ro X, amS, seval, reduceCtorEq, ty3, ty4, ty9, ty25, ty27, hE3.get]
    exact ⟨by rw [decide_eq_false (fun e => hc (by rw [e]))], by ((repeat' (first | exact Ext.refl _ | assumption | refine Ext.trans ?_ (Ext.new _ _) | refine Ext.put ?_ ?_ _ | refine Ext.trans ?_ (by assumption))) <;> (first | omega | (simp only [AH.size_new, AH.size_put] <;> omega)))⟩
  have c3 : x.2.2 = y.2.2 := by simpa using h
  simp (maxSteps := 2000000) (disch := first | omega | (simp only [AH.size_new, AH.size_put] <;> omega) | fail) only [amR Try.prog ro X, amS, seval, reduceCtorEq, ty3, ty4, ty9, ty25, ty27, hE3.get]
  exact ⟨by rw [decide_eq_true (Prod.ext c1 (Prod.ext c2 (c3)))], by ((repeat' (first | exact Ext.refl _ | assumption | refine Ext.trans ?_ (Ext.new _ _) | refine Ext.put ?_ ?_ _ | refine Ext.trans ?_ (by assumption))) <;> (first | omega | (simp only [AH.size_new, AH.size_put] <;> omega)))⟩
theorem sz_Result (A : AH) (hro : ro ≤ A.size) (x : TResult) (cs : List Value) (F : List Nat) (h : Dat.rep A x cs F) (hn : Mk.bd x) (left : Int) (hz : 0 ≤ left ∧ left ≤ 2097152) :
    ACalls Try.prog ro X 16 [.agg cs.toArray, .int .i64 left] A (fun r A' => r = .ret (.int .i64 (szR left (Mk.sz x))) ∧ Ext A A') := by
  obtain ⟨s1, G1, rfl, rfl, z1, h1⟩ := rep_Result.1 h
  have y1 := big_lt z1
  have hsz : Mk.sz x = 0 + (x.2.1.size + (szL Mk.sz x.2.2)) := rfl
  refine ACalls.enterQ (rs := [.tmp 4]) Try.func16 rfl (by kernel_rfl) rfl ?_
  simp (maxSteps := 2000000) (disch := first | omega | (simp only [AH.size_new, AH.size_put] <;> omega) | fail) only [amR Try.prog ro X, amS, seval, reduceCtorEq, ty3, ty9, ty25, ty33]
  refine CondB.split (fun h => ?_) (fun h => ?_)
  · have hc : left - (x.2.1.size : Nat) < 0 := by simpa using h
    simp (maxSteps := 2000000) (disch := first | omega | (simp only [AH.size_new, AH.size_put] <;> omega) | fail) only [amR Try.prog ro X, amS, seval, reduceCtorEq, ty3, ty9, ty25, ty33]
    exact ⟨(by rw [szR_neg (by omega : left - (Mk.sz x : Nat) < 0)]), by ((repeat' (first | exact Ext.refl _ | assumption | refine Ext.trans ?_ (Ext.new _ _) | refine Ext.put ?_ ?_ _ | refine Ext.trans ?_ (by assumption))) <;> (first | omega | (simp only [AH.size_new, AH.size_put] <;> omega)))⟩
  have c1 : ¬ (left - (x.2.1.size : Nat) < 0) := by simpa using h
  simp (maxSteps := 2000000) (disch := first | omega | (simp only [AH.size_new, AH.size_put] <;> omega) | fail) only [amR Try.prog ro X, amS, seval, reduceCtorEq, ty3, ty9, ty25, ty33]
  refine (szL_str _ (by first | omega | (simp only [AH.size_new, AH.size_put] <;> omega)) s1 _ _ (h1.ext (by ((repeat' (first | exact Ext.refl _ | assumption | refine Ext.trans ?_ (Ext.new _ _) | refine Ext.put ?_ ?_ _ | refine Ext.trans ?_ (by assumption))) <;> (first | omega | (simp only [AH.size_new, AH.size_put] <;> omega))))) hn.2.2 (left - (x.2.1.size : Nat)) (by omega)).mono ?_
  rintro r B2 ⟨rfl, hE2⟩
  have v2 := hE2.size
  try simp only [AH.size_new, AH.size_put] at v2
  by_cases c2 : left - (x.2.1.size : Nat) - (szL Mk.sz x.2.2 : Nat) < 0
  · rw [szR_neg c2]
    simp (maxSteps := 2000000) (disch := first | omega | (simp only [AH.size_new, AH.size_put] <;> omega) | fail) only [amR Try.prog ro X, amS, seval, reduceCtorEq, ty3, ty9, ty25, ty33, hE2.get]
    exact ⟨(by rw [szR_neg (by omega : left - (Mk.sz x : Nat) < 0)]), by ((repeat' (first | exact Ext.refl _ | assumption | refine Ext.trans ?_ (Ext.new _ _) | refine Ext.put ?_ ?_ _ | refine Ext.trans ?_ (by assumption))) <;> (first | omega | (simp only [AH.size_new, AH.size_put] <;> omega)))⟩
  rw [szR_pos c2]
  simp (maxSteps := 2000000) (disch := first | omega | (simp only [AH.size_new, AH.size_put] <;> omega) | fail) only [amR Try.prog ro X, amS, seval, reduceCtorEq, ty3, ty9, ty25, ty33, hE2.get, c2]
  exact ⟨by rw [szR_pos (by omega : ¬ left - (Mk.sz x : Nat) < 0)]; congr 2 <;> omega, by ((repeat' (first | exact Ext.refl _ | assumption | refine Ext.trans ?_ (Ext.new _ _) | refine Ext.put ?_ ?_ _ | refine Ext.trans ?_ (by assumption))) <;> (first | omega | (simp only [AH.size_new, AH.size_put] <;> omega)))⟩
end Go.Proofs.Ytaiagocjnnfkmaa.Amu.Law
