/- The laws' own functions: copies, comparisons, measures of the program's data (printed by law.py). -/
import Derived.Test.YtcdnlghlbljopaaAmP
import Derived.Test.YtcdnlghlbljopaaProg
namespace Go.Proofs.Ytcdnlghlbljopaa.Amu.Law
open Go Go.AM Go.Proofs
set_option linter.unusedVariables false
set_option linter.unusedSimpArgs false
theorem ty3 : tKind Try.prog 3 = some (.int .i64) ∧ tSize Try.prog 3 = some 1 ∧ tAgg Try.prog 3 = some false ∧ tZero Try.prog 3 = some (.int .i64 0) := ⟨by kernel_rfl, by kernel_rfl, by kernel_rfl, by kernel_rfl⟩
theorem ty4 : tKind Try.prog 4 = some (.bool) ∧ tSize Try.prog 4 = some 1 ∧ tAgg Try.prog 4 = some false ∧ tZero Try.prog 4 = some (.bool false) := ⟨by kernel_rfl, by kernel_rfl, by kernel_rfl, by kernel_rfl⟩
theorem ty9 : tKind Try.prog 9 = some (.str) ∧ tSize Try.prog 9 = some 1 ∧ tAgg Try.prog 9 = some false ∧ tZero Try.prog 9 = some (.string ByteArray.empty) := ⟨by kernel_rfl, by kernel_rfl, by kernel_rfl, by kernel_rfl⟩
theorem ty22 : tKind Try.prog 22 = some (.slice) ∧ tSize Try.prog 22 = some 1 ∧ tAgg Try.prog 22 = some false ∧ tZero Try.prog 22 = some (.slice none 0 0) ∧ tElem Try.prog 22 = some 72 ∧ tElemSize Try.prog 22 = some 3 ∧ tBytes Try.prog 22 = false := ⟨by kernel_rfl, by kernel_rfl, by kernel_rfl, by kernel_rfl, by kernel_rfl, by kernel_rfl, by kernel_rfl⟩
theorem ty24 : tKind Try.prog 24 = some (.struct) ∧ tSize Try.prog 24 = some 1 ∧ tAgg Try.prog 24 = some true ∧ tZero Try.prog 24 = some (.agg #[.slice none 0 0]) ∧ tField Try.prog 24 0 = some (0, 22) ∧ tPlaces Try.prog 24 = some [(0, 1)] := ⟨by kernel_rfl, by kernel_rfl, by kernel_rfl, by kernel_rfl, by kernel_rfl, by kernel_rfl⟩
theorem ty25 : tKind Try.prog 25 = some (.slice) ∧ tSize Try.prog 25 = some 1 ∧ tAgg Try.prog 25 = some false ∧ tZero Try.prog 25 = some (.slice none 0 0) ∧ tElem Try.prog 25 = some 62 ∧ tElemSize Try.prog 25 = some 3 ∧ tBytes Try.prog 25 = false := ⟨by kernel_rfl, by kernel_rfl, by kernel_rfl, by kernel_rfl, by kernel_rfl, by kernel_rfl, by kernel_rfl⟩
theorem ty27 : tKind Try.prog 27 = some (.struct) ∧ tSize Try.prog 27 = some 3 ∧ tAgg Try.prog 27 = some true ∧ tZero Try.prog 27 = some (.agg #[.slice none 0 0, .slice none 0 0, .string ByteArray.empty]) ∧ tField Try.prog 27 0 = some (0, 24) ∧ tField Try.prog 27 1 = some (1, 25) ∧ tField Try.prog 27 2 = some (2, 9) ∧ tPlaces Try.prog 27 = some [(0, 1), (1, 1), (2, 1)] := ⟨by kernel_rfl, by kernel_rfl, by kernel_rfl, by kernel_rfl, by kernel_rfl, by kernel_rfl, by kernel_rfl, by kernel_rfl⟩
theorem ty28 : tKind Try.prog 28 = some (.slice) ∧ tSize Try.prog 28 = some 1 ∧ tAgg Try.prog 28 = some false ∧ tZero Try.prog 28 = some (.slice none 0 0) ∧ tElem Try.prog 28 = some 48 ∧ tElemSize Try.prog 28 = some 3 ∧ tBytes Try.prog 28 = false := ⟨by kernel_rfl, by kernel_rfl, by kernel_rfl, by kernel_rfl, by kernel_rfl, by kernel_rfl, by kernel_rfl⟩
theorem ty32 : tKind Try.prog 32 = some (.slice) ∧ tSize Try.prog 32 = some 1 ∧ tAgg Try.prog 32 = some false ∧ tZero Try.prog 32 = some (.slice none 0 0) ∧ tElem Try.prog 32 = some 73 ∧ tElemSize Try.prog 32 = some 3 ∧ tBytes Try.prog 32 = false := ⟨by kernel_rfl, by kernel_rfl, by kernel_rfl, by kernel_rfl, by kernel_rfl, by kernel_rfl, by kernel_rfl⟩
theorem ty34 : tKind Try.prog 34 = some (.struct) ∧ tSize Try.prog 34 = some 1 ∧ tAgg Try.prog 34 = some true ∧ tZero Try.prog 34 = some (.agg #[.slice none 0 0]) ∧ tField Try.prog 34 0 = some (0, 32) ∧ tPlaces Try.prog 34 = some [(0, 1)] := ⟨by kernel_rfl, by kernel_rfl, by kernel_rfl, by kernel_rfl, by kernel_rfl, by kernel_rfl⟩
theorem ty35 : tKind Try.prog 35 = some (.slice) ∧ tSize Try.prog 35 = some 1 ∧ tAgg Try.prog 35 = some false ∧ tZero Try.prog 35 = some (.slice none 0 0) ∧ tElem Try.prog 35 = some 51 ∧ tElemSize Try.prog 35 = some 3 ∧ tBytes Try.prog 35 = false := ⟨by kernel_rfl, by kernel_rfl, by kernel_rfl, by kernel_rfl, by kernel_rfl, by kernel_rfl, by kernel_rfl⟩
theorem ty37 : tKind Try.prog 37 = some (.struct) ∧ tSize Try.prog 37 = some 3 ∧ tAgg Try.prog 37 = some true ∧ tZero Try.prog 37 = some (.agg #[.slice none 0 0, .slice none 0 0, .string ByteArray.empty]) ∧ tField Try.prog 37 0 = some (0, 34) ∧ tField Try.prog 37 1 = some (1, 35) ∧ tField Try.prog 37 2 = some (2, 9) ∧ tPlaces Try.prog 37 = some [(0, 1), (1, 1), (2, 1)] := ⟨by kernel_rfl, by kernel_rfl, by kernel_rfl, by kernel_rfl, by kernel_rfl, by kernel_rfl, by kernel_rfl, by kernel_rfl⟩
theorem ty39 : tKind Try.prog 39 = some (.slice) ∧ tSize Try.prog 39 = some 1 ∧ tAgg Try.prog 39 = some false ∧ tZero Try.prog 39 = some (.slice none 0 0) ∧ tElem Try.prog 39 = some 52 ∧ tElemSize Try.prog 39 = some 3 ∧ tBytes Try.prog 39 = false := ⟨by kernel_rfl, by kernel_rfl, by kernel_rfl, by kernel_rfl, by kernel_rfl, by kernel_rfl, by kernel_rfl⟩
theorem ty48 : tKind Try.prog 48 = some (.struct) ∧ tSize Try.prog 48 = some 3 ∧ tAgg Try.prog 48 = some true ∧ tZero Try.prog 48 = some (.agg #[.string ByteArray.empty, .bool false, .string ByteArray.empty]) ∧ tField Try.prog 48 0 = some (0, 9) ∧ tField Try.prog 48 1 = some (1, 4) ∧ tField Try.prog 48 2 = some (2, 9) ∧ tPlaces Try.prog 48 = some [(0, 1), (1, 1), (2, 1)] := ⟨by kernel_rfl, by kernel_rfl, by kernel_rfl, by kernel_rfl, by kernel_rfl, by kernel_rfl, by kernel_rfl, by kernel_rfl⟩
theorem ty51 : tKind Try.prog 51 = some (.struct) ∧ tSize Try.prog 51 = some 3 ∧ tAgg Try.prog 51 = some true ∧ tZero Try.prog 51 = some (.agg #[.string ByteArray.empty, .bool false, .string ByteArray.empty]) ∧ tField Try.prog 51 0 = some (0, 9) ∧ tField Try.prog 51 1 = some (1, 4) ∧ tField Try.prog 51 2 = some (2, 9) ∧ tPlaces Try.prog 51 = some [(0, 1), (1, 1), (2, 1)] := ⟨by kernel_rfl, by kernel_rfl, by kernel_rfl, by kernel_rfl, by kernel_rfl, by kernel_rfl, by kernel_rfl, by kernel_rfl⟩
theorem ty52 : tKind Try.prog 52 = some (.struct) ∧ tSize Try.prog 52 = some 3 ∧ tAgg Try.prog 52 = some true ∧ tZero Try.prog 52 = some (.agg #[.string ByteArray.empty, .bool false, .string ByteArray.empty]) ∧ tField Try.prog 52 0 = some (0, 9) ∧ tField Try.prog 52 1 = some (1, 4) ∧ tField Try.prog 52 2 = some (2, 9) ∧ tPlaces Try.prog 52 = some [(0, 1), (1, 1), (2, 1)] := ⟨by kernel_rfl, by kernel_rfl, by kernel_rfl, by kernel_rfl, by kernel_rfl, by kernel_rfl, by kernel_rfl, by kernel_rfl⟩
theorem ty62 : tKind Try.prog 62 = some (.struct) ∧ tSize Try.prog 62 = some 3 ∧ tAgg Try.prog 62 = some true ∧ tZero Try.prog 62 = some (.agg #[.string ByteArray.empty, .bool false, .string ByteArray.empty]) ∧ tField Try.prog 62 0 = some (0, 9) ∧ tField Try.prog 62 1 = some (1, 4) ∧ tField Try.prog 62 2 = some (2, 9) ∧ tPlaces Try.prog 62 = some [(0, 1), (1, 1), (2, 1)] := ⟨by kernel_rfl, by kernel_rfl, by kernel_rfl, by kernel_rfl, by kernel_rfl, by kernel_rfl, by kernel_rfl, by kernel_rfl⟩
theorem ty72 : tKind Try.prog 72 = some (.struct) ∧ tSize Try.prog 72 = some 3 ∧ tAgg Try.prog 72 = some true ∧ tZero Try.prog 72 = some (.agg #[.int .i64 0, .string ByteArray.empty, .int .i64 0]) ∧ tField Try.prog 72 0 = some (0, 3) ∧ tField Try.prog 72 1 = some (1, 9) ∧ tField Try.prog 72 2 = some (2, 3) ∧ tPlaces Try.prog 72 = some [(0, 1), (1, 1), (2, 1)] := ⟨by kernel_rfl, by kernel_rfl, by kernel_rfl, by kernel_rfl, by kernel_rfl, by kernel_rfl, by kernel_rfl, by kernel_rfl⟩
theorem ty73 : tKind Try.prog 73 = some (.struct) ∧ tSize Try.prog 73 = some 3 ∧ tAgg Try.prog 73 = some true ∧ tZero Try.prog 73 = some (.agg #[.int .i64 0, .string ByteArray.empty, .int .i64 0]) ∧ tField Try.prog 73 0 = some (0, 3) ∧ tField Try.prog 73 1 = some (1, 9) ∧ tField Try.prog 73 2 = some (2, 3) ∧ tPlaces Try.prog 73 = some [(0, 1), (1, 1), (2, 1)] := ⟨by kernel_rfl, by kernel_rfl, by kernel_rfl, by kernel_rfl, by kernel_rfl, by kernel_rfl, by kernel_rfl, by kernel_rfl⟩

variable {ro : Nat} {X : FuncId → List Value → AH → ARes → AH → Prop}
set_option maxRecDepth 10000
theorem to_Ins (A : AH) (hro : ro ≤ A.size) (x : TIns) (cs : List Value) (F : List Nat) (h : Dat.rep A x cs F) (hz : Mk.sz x < 4294967296) :
    ACalls Try.prog ro X 32 [.agg cs.toArray] A (fun r A' => ∃ cs' F', r = .ret (.agg cs'.toArray) ∧ Dat.rep A' x cs' F' ∧ Fresh A F' A' ∧ Ext A A') := by
  obtain ⟨rfl, rfl, z1⟩ := rep_Ins.1 h
  have y1 := big_lt z1
  have hsz : Mk.sz x = 0 + (x.2.1.size + (0)) := rfl
  refine ACalls.enterQ (rs := [.cell 2 73]) Try.func32 rfl (by kernel_rfl) rfl ?_
  simp (maxSteps := 2000000) (disch := first | omega | (simp only [AH.size_new, AH.size_put] <;> omega) | fail) only [amR Try.prog ro X, amS, seval, reduceCtorEq, ty3, ty9, ty72, ty73]
  exact ⟨_, _, rfl, rep_Ins.2 ⟨rfl, rfl, z1⟩, Fresh.nil _ _, by ((repeat' (first | exact Ext.refl _ | assumption | refine Ext.trans ?_ (Ext.new _ _) | refine Ext.put ?_ ?_ _ | refine Ext.trans ?_ (by assumption))) <;> (first | omega | (simp only [AH.size_new, AH.size_put] <;> omega)))⟩
theorem toL_Ins (A : AH) (hro : ro ≤ A.size) (s : Sl) (l : List TIns) (F : List Nat) (hs : SlR A s l F) (hz : szL Mk.sz l < 4294967296) :
    ACalls Try.prog ro X 27 [s.v] A (fun r A' => ∃ t G, r = .ret t.v ∧ SlR A' t l G ∧ Fresh A G A' ∧ Ext A A') := by
  have hl := szL_length Mk.sz l
  refine ACalls.enterQ (rs := [.tmp 2]) Try.func27 rfl (by kernel_rfl) rfl ?_
  simp (maxSteps := 2000000) (disch := first | omega | (simp only [AH.size_new, AH.size_put] <;> omega) | fail) only [amR Try.prog ro X, amS, seval, reduceCtorEq, ty3, ty9, ty22, ty32, ty72, ty73, hs.len]
  refine Wp.loopC (fun n e A' => Ext A A' ∧ A.size < A'.size ∧ e 0 = s.v ∧ e 3 = (Sl.mk false A.size 0 l.length l.length).v ∧ ∃ i : Nat, i ≤ l.length ∧ n = l.length - i ∧ e 4 = .int .i64 i ∧ ∃ G, Part A' A.size l.length (l.take i) G ∧ Fresh (A.new .dead) G A') (l.length - 0) ?_ ?_
  · simp (maxSteps := 2000000) (disch := first | omega | (simp only [AH.size_new, AH.size_put] <;> omega) | fail) only [amV, amH, amQ, amL, amN Try.prog, amS, seval, reduceCtorEq, ty3, ty9, ty22, ty32, ty72, ty73]
    refine ⟨Ext.new A _, by omega, 0, by omega, rfl, rfl, [], ?_, Fresh.nil _ _⟩
    rw [List.take_zero]
    exact Part.start (by simp [AH.size_new]) (AH.get_new_self _ _) (fill_flat _ _ _ rfl)
  · rintro n e A' ⟨hE, hlt, h0, h3, i, hi, rfl, h4, G, hp, hf⟩
    have hs' := hs.ext hE
    simp (maxSteps := 2000000) (disch := first | omega | (simp only [AH.size_new, AH.size_put] <;> omega) | fail) only [amR Try.prog ro X, amS, seval, reduceCtorEq, ty3, ty9, ty22, ty32, ty72, ty73, h0, h3, h4, hs.len]
    refine CondB.split (fun h => ?_) (fun h => ?_)
    · have hil : i < l.length := by simp at h; omega
      obtain ⟨n1, b1, m1, i1, cs, Fi, c1, q1, _⟩ := hs'.row hil
      rw [aRow_eq] at c1
      have hw : Dat.w TIns = 3 := rfl
      rw [hw] at c1
      have hzi := szL_get Mk.sz l i hil
      simp (maxSteps := 2000000) (disch := first | omega | (simp only [AH.size_new, AH.size_put] <;> omega) | fail) only [amR Try.prog ro X, amS, seval, reduceCtorEq, ty3, ty9, ty22, ty32, ty72, ty73, h0, h3, h4, n1, c1]
      refine (to_Ins _ (by omega) l[i] cs Fi q1 (by omega)).mono ?_
      rintro r A2 ⟨cs', F', rfl, q2, f2, hE2⟩
      have v2 := hE2.size
      have hp2 := hp.ext hE2
      have hl2 : cs'.length = 3 := Dat.len q2
      obtain ⟨hlt2, ⟨c, g1, g2, g3⟩, hle⟩ := id hp2
      have hwl : (i + 1) * 3 ≤ l.length * 3 := Nat.mul_le_mul_right _ hil
      rw [hw] at g1 g2
      simp (maxSteps := 2000000) (disch := first | omega | (simp only [AH.size_new, AH.size_put] <;> omega) | fail) only [amR Try.prog ro X, amS, seval, reduceCtorEq, ty3, ty9, ty22, ty32, ty72, ty73, h0, h3, h4, g1, hl2]
      refine ⟨l.length - (i + 1), by omega, (hE.trans hE2).put (Nat.le_refl _) _, by omega, i + 1, by omega, rfl, by simp, G ++ F', ?_, (hf.mono (Nat.le_refl _) (Nat.le_refl _)).append (f2.mono (Nat.le_refl _) (Nat.le_refl _)) (by simp [AH.size_new]; omega) v2⟩
      have := hp2.store (fun hm => by have := hf.lo _ hm; simp [AH.size_new] at this; omega) q2 (fun hm => by have := f2.lo _ hm; omega) (by simp; omega) g1
      rw [List.take_succ_eq_append_getElem hil]
      rw [List.length_take, Nat.min_eq_left hi, hw] at this
      exact this
    · have hil : i = l.length := by simp at h; omega
      subst hil
      simp (maxSteps := 2000000) (disch := first | omega | (simp only [AH.size_new, AH.size_put] <;> omega) | fail) only [amR Try.prog ro X, amS, seval, reduceCtorEq, ty3, ty9, ty22, ty32, ty72, ty73, h3]
      rw [List.take_length] at hp
      exact ⟨_, _, rfl, hp.done rfl (by unfold BIG; omega), Fresh.cons (Nat.le_refl _) (by simp [AH.size_new]) hf (by simp only [AH.size_new]; omega) (by simp only [AH.size_new]; omega), hE⟩
theorem eq_Ins (A : AH) (hro : ro ≤ A.size) (x y : TIns) (cs ds : List Value) (F F' : List Nat) (h : Dat.rep A x cs F) (h' : Dat.rep A y ds F') (hz : Mk.sz x < 4294967296) :
    ACalls Try.prog ro X 33 [.agg cs.toArray, .agg ds.toArray] A (fun r A' => r = .ret (.bool (decide (x = y))) ∧ Ext A A') := by
  obtain ⟨rfl, rfl, z1⟩ := rep_Ins.1 h
  obtain ⟨rfl, rfl, z1'⟩ := rep_Ins.1 h'
  have hsz : Mk.sz x = 0 + (x.2.1.size + (0)) := rfl
  refine ACalls.enterQ (rs := [.tmp 4]) Try.func33 rfl (by kernel_rfl) rfl ?_
  simp (maxSteps := 2000000) (disch := first | omega | (simp only [AH.size_new, AH.size_put] <;> omega) | fail) only [amR Try.prog ro X, amS, seval, reduceCtorEq, ty3, ty9, ty73]
  refine CondB.split (fun h => ?_) (fun h => ?_)
  · have hc : ¬ x.1 = y.1 := by simpa using h
    simp (maxSteps := 2000000) (disch := first | omega | (simp only [AH.size_new, AH.size_put] <;> omega) | fail) only [amR Try.prog ro X, amS, seval, reduceCtorEq, ty3, ty9, ty73]
    exact ⟨by rw [decide_eq_false (fun e => hc (by rw [e]))], by ((repeat' (first | exact Ext.refl _ | assumption | refine Ext.trans ?_ (Ext.new _ _) | refine Ext.put ?_ ?_ _ | refine Ext.trans ?_ (by assumption))) <;> (first | omega | (simp only [AH.size_new, AH.size_put] <;> omega)))⟩
  have c1 : x.1 = y.1 := by simpa using h
  simp (maxSteps := 2000000) (disch := first | omega | (simp only [AH.size_new, AH.size_put] <;> omega) | fail) only [amR Try.prog ro X, amS, seval, reduceCtorEq, ty3, ty9, ty73]
  refine CondB.split (fun h => ?_) (fun h => ?_)
  · have hc : ¬ x.2.1 = y.2.1 := by simpa using h
    simp (maxSteps := 2000000) (disch := first | omega | (simp only [AH.size_new, AH.size_put] <;> omega) | fail) only [amR Try.prog ro X, amS, seval, reduceCtorEq, ty3, ty9, ty73]
    exact ⟨by rw [decide_eq_false (fun e => hc (by rw [e]))], by ((repeat' (first | exact Ext.refl _ | assumption | refine Ext.trans ?_ (Ext.new _ _) | refine Ext.put ?_ ?_ _ | refine Ext.trans ?_ (by assumption))) <;> (first | omega | (simp only [AH.size_new, AH.size_put] <;> omega)))⟩
  have c2 : x.2.1 = y.2.1 := by simpa using h
  simp (maxSteps := 2000000) (disch := first | omega | (simp only [AH.size_new, AH.size_put] <;> omega) | fail) only [amR Try.prog ro X, amS, seval, reduceCtorEq, ty3, ty9, ty73]
  refine CondB.split (fun h => ?_) (fun h => ?_)
  · have hc : ¬ x.2.2 = y.2.2 := by simpa using h
    simp (maxSteps := 2000000) (disch := first | omega | (simp only [AH.size_new, AH.size_put] <;> omega) | fail) only [amR Try.prog ro X, amS, seval, reduceCtorEq, ty3, ty9, ty73]
    exact ⟨by rw [decide_eq_false (fun e => hc (by rw [e]))], by ((repeat' (first | exact Ext.refl _ | assumption | refine Ext.trans ?_ (Ext.new _ _) | refine Ext.put ?_ ?_ _ | refine Ext.trans ?_ (by assumption))) <;> (first | omega | (simp only [AH.size_new, AH.size_put] <;> omega)))⟩
  have c3 : x.2.2 = y.2.2 := by simpa using h
  simp (maxSteps := 2000000) (disch := first | omega | (simp only [AH.size_new, AH.size_put] <;> omega) | fail) only [amR Try.prog ro X, amS, seval, reduceCtorEq, ty3, ty9, ty73]
  exact ⟨by rw [decide_eq_true (Prod.ext c1 (Prod.ext c2 (c3)))], by ((repeat' (first | exact Ext.refl _ | assumption | refine Ext.trans ?_ (Ext.new _ _) | refine Ext.put ?_ ?_ _ | refine Ext.trans ?_ (by assumption))) <;> (first | omega | (simp only [AH.size_new, AH.size_put] <;> omega)))⟩
theorem eqL_Ins (A : AH) (hro : ro ≤ A.size) (s t : Sl) (l k : List TIns) (F G : List Nat) (hs : SlR A s l F) (ht : SlR A t k G) (hz : szL Mk.sz l < 4294967296) :
    ACalls Try.prog ro X 29 [s.v, t.v] A (fun r A' => r = .ret (.bool (decide (l = k))) ∧ Ext A A') := by
  have hl := szL_length Mk.sz l
  have hw : Dat.w TIns = 3 := rfl
  refine ACalls.enterQ (rs := [.tmp 4]) Try.func29 rfl (by kernel_rfl) rfl ?_
  simp (maxSteps := 2000000) (disch := first | omega | (simp only [AH.size_new, AH.size_put] <;> omega) | fail) only [amR Try.prog ro X, amS, seval, reduceCtorEq, ty3, ty4, ty9, ty32, ty73, hs.len, ht.len]
  refine CondB.split (fun h => ?_) (fun h => ?_)
  · simp (maxSteps := 2000000) (disch := first | omega | (simp only [AH.size_new, AH.size_put] <;> omega) | fail) only [amR Try.prog ro X, amS, seval, reduceCtorEq, ty3, ty4, ty9, ty32, ty73]
    have : l ≠ k := fun e => by simp [e] at h
    simp [this, Ext.refl]
  · simp (maxSteps := 2000000) (disch := first | omega | (simp only [AH.size_new, AH.size_put] <;> omega) | fail) only [amR Try.prog ro X, amS, seval, reduceCtorEq, ty3, ty4, ty9, ty32, ty73]
    have hlk : l.length = k.length := by simp at h; omega
    refine Wp.loopC (fun n e A' => Ext A A' ∧ e 0 = s.v ∧ e 1 = t.v ∧ ∃ i : Nat, i ≤ l.length ∧ n = l.length - i ∧ e 5 = .int .i64 i ∧ l.take i = k.take i) (l.length - 0) ?_ ?_
    · simp (maxSteps := 2000000) (disch := first | omega | (simp only [AH.size_new, AH.size_put] <;> omega) | fail) only [amV, amH, amQ, amL, amN Try.prog, amS, seval, reduceCtorEq, ty3, ty4, ty9, ty32, ty73]
      exact ⟨Ext.refl A, 0, by simp, rfl, rfl, by simp⟩
    · rintro n e A' ⟨hE, h0, h1, i, hi, rfl, h5, heq⟩
      have v1 := hE.size
      simp (maxSteps := 2000000) (disch := first | omega | (simp only [AH.size_new, AH.size_put] <;> omega) | fail) only [amR Try.prog ro X, amS, seval, reduceCtorEq, ty3, ty4, ty9, ty32, ty73, h0, h1, h5, hs.len]
      refine CondB.split (fun h => ?_) (fun h => ?_)
      · simp (maxSteps := 2000000) (disch := first | omega | (simp only [AH.size_new, AH.size_put] <;> omega) | fail) only [amR Try.prog ro X, amS, seval, reduceCtorEq, ty3, ty4, ty9, ty32, ty73]
        have hil : i < l.length := by simp at h; omega
        obtain ⟨n1, b1, m1, i1, cs, Fi, c1, q1, _⟩ := (hs.ext hE).row hil
        obtain ⟨n2, b2, m2, i2, ds, Gi, c2, q2, _⟩ := (ht.ext hE).row (i := i) (by omega)
        rw [aRow_eq, hw] at c1 c2
        have hzi := szL_get Mk.sz l i hil
        refine Wp.runG [] (by kernel_rfl) (.inl (by kernel_rfl)) ?_
        simp (maxSteps := 2000000) (disch := first | omega | (simp only [AH.size_new, AH.size_put] <;> omega) | fail) only [amR Try.prog ro X, amS, seval, reduceCtorEq, ty3, ty4, ty9, ty32, ty73, h0, h1, h5, n1, n2, c1, c2]
        refine (eq_Ins _ (by omega) l[i] k[i] cs ds Fi Gi q1 q2 (by omega)).mono ?_
        rintro r A2 ⟨rfl, hE2⟩
        simp (maxSteps := 2000000) (disch := first | omega | (simp only [AH.size_new, AH.size_put] <;> omega) | fail) only [amR Try.prog ro X, amS, seval, reduceCtorEq, ty3, ty4, ty9, ty32, ty73]
        refine CondB.split (fun h => ?_) (fun h => ?_)
        · simp (maxSteps := 2000000) (disch := first | omega | (simp only [AH.size_new, AH.size_put] <;> omega) | fail) only [amR Try.prog ro X, amS, seval, reduceCtorEq, ty3, ty4, ty9, ty32, ty73]
          have : l ≠ k := by
            intro e
            subst e
            simp at h
          simp [this, hE.trans hE2]
        · simp (maxSteps := 2000000) (disch := first | omega | (simp only [AH.size_new, AH.size_put] <;> omega) | fail) only [amR Try.prog ro X, amS, seval, reduceCtorEq, ty3, ty4, ty9, ty32, ty73, h0, h1, h5]
          refine ⟨l.length - (i + 1), by omega, hE.trans hE2, i + 1, by omega, rfl, by simp, ?_⟩
          rw [List.take_succ_eq_append_getElem hil, List.take_succ_eq_append_getElem (by omega : i < k.length), heq]
          have : l[i] = k[i] := by simpa using h
          rw [this]
      · simp (maxSteps := 2000000) (disch := first | omega | (simp only [AH.size_new, AH.size_put] <;> omega) | fail) only [amR Try.prog ro X, amS, seval, reduceCtorEq, ty3, ty4, ty9, ty32, ty73]
        have : l = k := by
          have hi2 : i = l.length := by simp at h; omega
          subst hi2
          rw [List.take_length] at heq
          rw [hlk, List.take_length] at heq
          exact heq
        simp [this, hE]
theorem sz_Ins (A : AH) (hro : ro ≤ A.size) (x : TIns) (cs : List Value) (F : List Nat) (h : Dat.rep A x cs F) (hn : Mk.bd x) (left : Int) (hz : 0 ≤ left ∧ left ≤ 2097152) :
    ACalls Try.prog ro X 31 [.agg cs.toArray, .int .i64 left] A (fun r A' => r = .ret (.int .i64 (szR left (Mk.sz x))) ∧ Ext A A') := by
  obtain ⟨rfl, rfl, z1⟩ := rep_Ins.1 h
  have y1 := big_lt z1
  have hsz : Mk.sz x = 0 + (x.2.1.size + (0)) := rfl
  refine ACalls.enterQ (rs := [.tmp 4]) Try.func31 rfl (by kernel_rfl) rfl ?_
  simp (maxSteps := 2000000) (disch := first | omega | (simp only [AH.size_new, AH.size_put] <;> omega) | fail) only [amR Try.prog ro X, amS, seval, reduceCtorEq, ty3, ty9, ty72]
  refine CondB.split (fun h => ?_) (fun h => ?_)
  · have hc : left - (x.2.1.size : Nat) < 0 := by simpa using h
    simp (maxSteps := 2000000) (disch := first | omega | (simp only [AH.size_new, AH.size_put] <;> omega) | fail) only [amR Try.prog ro X, amS, seval, reduceCtorEq, ty3, ty9, ty72]
    exact ⟨(by rw [szR_neg (by omega : left - (Mk.sz x : Nat) < 0)]), by ((repeat' (first | exact Ext.refl _ | assumption | refine Ext.trans ?_ (Ext.new _ _) | refine Ext.put ?_ ?_ _ | refine Ext.trans ?_ (by assumption))) <;> (first | omega | (simp only [AH.size_new, AH.size_put] <;> omega)))⟩
  have c1 : ¬ (left - (x.2.1.size : Nat) < 0) := by simpa using h
  simp (maxSteps := 2000000) (disch := first | omega | (simp only [AH.size_new, AH.size_put] <;> omega) | fail) only [amR Try.prog ro X, amS, seval, reduceCtorEq, ty3, ty9, ty72]
  exact ⟨by rw [szR_pos (by omega : ¬ left - (Mk.sz x : Nat) < 0)]; congr 2 <;> omega, by ((repeat' (first | exact Ext.refl _ | assumption | refine Ext.trans ?_ (Ext.new _ _) | refine Ext.put ?_ ?_ _ | refine Ext.trans ?_ (by assumption))) <;> (first | omega | (simp only [AH.size_new, AH.size_put] <;> omega)))⟩
theorem szL_Ins (A : AH) (hro : ro ≤ A.size) (s : Sl) (l : List TIns) (F : List Nat) (hs : SlR A s l F) (hn : Mk.bd l) (left : Int) (hz : 0 ≤ left ∧ left ≤ 2097152) :
    ACalls Try.prog ro X 25 [s.v, .int .i64 left] A (fun r A' => r = .ret (.int .i64 (szR left (szL Mk.sz l))) ∧ Ext A A') := by
  have hl := hn.1
  have hw : Dat.w TIns = 3 := rfl
  refine ACalls.enterQ (rs := [.tmp 4]) Try.func25 rfl (by kernel_rfl) rfl ?_
  simp (maxSteps := 2000000) (disch := first | omega | (simp only [AH.size_new, AH.size_put] <;> omega) | fail) only [amR Try.prog ro X, amS, seval, reduceCtorEq, ty3, ty9, ty22, ty72, hs.len]
  refine CondB.split (fun h => ?_) (fun h => ?_)
  · simp (maxSteps := 2000000) (disch := first | omega | (simp only [AH.size_new, AH.size_put] <;> omega) | fail) only [amR Try.prog ro X, amS, seval, reduceCtorEq, ty3, ty9, ty22, ty72]
    have h2 : left - l.length < 0 := by simpa using h
    have := szL_length Mk.sz l
    exact ⟨by rw [szR_neg (by omega)], Ext.refl A⟩
  · simp (maxSteps := 2000000) (disch := first | omega | (simp only [AH.size_new, AH.size_put] <;> omega) | fail) only [amR Try.prog ro X, amS, seval, reduceCtorEq, ty3, ty9, ty22, ty72]
    refine Wp.loopC (fun n e A' => Ext A A' ∧ e 0 = s.v ∧ ∃ i : Nat, i ≤ l.length ∧ n = l.length - i ∧ e 5 = .int .i64 i ∧ e 1 = .int .i64 (left - szL Mk.sz (l.take i) + i - l.length) ∧ 0 ≤ left - szL Mk.sz (l.take i) + i - l.length) (l.length - 0) ?_ ?_
    · simp (maxSteps := 2000000) (disch := first | omega | (simp only [AH.size_new, AH.size_put] <;> omega) | fail) only [amV, amH, amQ, amL, amN Try.prog, amS, seval, reduceCtorEq, ty3, ty9, ty22, ty72]
      refine ⟨Ext.refl A, 0, by omega, rfl, rfl, ?_⟩
      have : 0 ≤ left - l.length := by simpa using h
      simp only [List.take_zero, szL_nil]
      exact ⟨by congr 1 <;> omega, by omega⟩
    · rintro n e A' ⟨hE, h0, i, hi, rfl, h5, h1, hle⟩
      have v1 := hE.size
      simp (maxSteps := 2000000) (disch := first | omega | (simp only [AH.size_new, AH.size_put] <;> omega) | fail) only [amR Try.prog ro X, amS, seval, reduceCtorEq, ty3, ty9, ty22, ty72, h0, h5, hs.len]
      refine CondB.split (fun h => ?_) (fun h => ?_)
      · have hil : i < l.length := by simp at h; omega
        obtain ⟨n1, b1, m1, i1, cs, Fi, c1, q1, _⟩ := (hs.ext hE).row hil
        rw [aRow_eq, hw] at c1
        have hst := szL_take_succ Mk.sz l i hil
        have hge := szL_take_le Mk.sz l (i + 1)
        have hge0 := szL_take_le Mk.sz l i
        have hti := szL_length Mk.sz (l.take i)
        rw [List.length_take, Nat.min_eq_left hi] at hti
        simp (maxSteps := 2000000) (disch := first | omega | (simp only [AH.size_new, AH.size_put] <;> omega) | fail) only [amR Try.prog ro X, amS, seval, reduceCtorEq, ty3, ty9, ty22, ty72, h0, h1, h5, n1, c1]
        refine (sz_Ins _ (by omega) l[i] cs Fi q1 (hn.2 _ (List.getElem_mem hil)) _ ⟨hle, by omega⟩).mono ?_
        rintro r A2 ⟨rfl, hE2⟩
        by_cases hc : left - szL Mk.sz (l.take i) + i - l.length - (Mk.sz l[i] : Nat) < 0
        · rw [szR_neg hc]
          simp (maxSteps := 2000000) (disch := first | omega | (simp only [AH.size_new, AH.size_put] <;> omega) | fail) only [amR Try.prog ro X, amS, seval, reduceCtorEq, ty3, ty9, ty22, ty72]
          exact ⟨by rw [szR_neg (by omega)], hE.trans hE2⟩
        · rw [szR_pos hc]
          simp (maxSteps := 2000000) (disch := first | omega | (simp only [AH.size_new, AH.size_put] <;> omega) | fail) only [amR Try.prog ro X, amS, seval, reduceCtorEq, ty3, ty9, ty22, ty72, h0, h5, hc]
          exact ⟨l.length - (i + 1), by omega, hE.trans hE2, i + 1, by omega, rfl, rfl, by congr 1 <;> omega, by omega⟩
      · have hil : i = l.length := by simp at h; omega
        subst hil
        rw [List.take_length] at h1 hle
        simp (maxSteps := 2000000) (disch := first | omega | (simp only [AH.size_new, AH.size_put] <;> omega) | fail) only [amR Try.prog ro X, amS, seval, reduceCtorEq, ty3, ty9, ty22, ty72, h1]
        exact ⟨by rw [szR_pos (by omega)]; congr 2; omega, hE⟩
theorem to_Program (A : AH) (hro : ro ≤ A.size) (x : TProgram) (cs : List Value) (F : List Nat) (h : Dat.rep A x cs F) (hz : Mk.sz x < 4294967296) :
    ACalls Try.prog ro X 17 [.agg cs.toArray] A (fun r A' => ∃ cs' F', r = .ret (.agg cs'.toArray) ∧ Dat.rep A' x cs' F' ∧ Fresh A F' A' ∧ Ext A A') := by
  obtain ⟨s1, G1, rfl, rfl, h1⟩ := rep_Program.1 h
  have hsz : Mk.sz x = szL Mk.sz x := rfl
  refine ACalls.enterQ (rs := [.cell 2 34]) Try.func17 rfl (by kernel_rfl) rfl ?_
  simp (maxSteps := 2000000) (disch := first | omega | (simp only [AH.size_new, AH.size_put] <;> omega) | fail) only [amR Try.prog ro X, amS, seval, reduceCtorEq, ty22, ty24, ty32, ty34, ty72, ty73]
  refine (toL_Ins _ (by first | omega | (simp only [AH.size_new, AH.size_put] <;> omega)) s1 _ _ (h1.ext (by ((repeat' (first | exact Ext.refl _ | assumption | refine Ext.trans ?_ (Ext.new _ _) | refine Ext.put ?_ ?_ _ | refine Ext.trans ?_ (by assumption))) <;> (first | omega | (simp only [AH.size_new, AH.size_put] <;> omega))))) (by omega)).mono ?_
  rintro r B1 ⟨t1, H1, rfl, q1, f1, hE1⟩
  have v1 := hE1.size
  try simp only [AH.size_new, AH.size_put] at v1
  simp (maxSteps := 2000000) (disch := first | omega | (simp only [AH.size_new, AH.size_put] <;> omega) | fail) only [amR Try.prog ro X, amS, seval, reduceCtorEq, ty22, ty24, ty32, ty34, ty72, ty73, hE1.get]
  exact ⟨_, _, rfl, rep_Program.2 ⟨t1, _, rfl, rfl, q1.low f1.lo (by ((repeat' (first | exact Low.refl _ _ | assumption | refine Low.new ?_ _ | refine Low.put ?_ ?_ _ | refine Low.trans ?_ (Ext.low (by assumption) _))) <;> (first | omega | (simp only [AH.size_new, AH.size_put] <;> omega))))⟩, f1.mono (by first | omega | (simp only [AH.size_new, AH.size_put] <;> omega)) (by first | omega | (simp only [AH.size_new, AH.size_put] <;> omega)), by ((repeat' (first | exact Ext.refl _ | assumption | refine Ext.trans ?_ (Ext.new _ _) | refine Ext.put ?_ ?_ _ | refine Ext.trans ?_ (by assumption))) <;> (first | omega | (simp only [AH.size_new, AH.size_put] <;> omega)))⟩
theorem eq_Program (A : AH) (hro : ro ≤ A.size) (x y : TProgram) (cs ds : List Value) (F F' : List Nat) (h : Dat.rep A x cs F) (h' : Dat.rep A y ds F') (hz : Mk.sz x < 4294967296) :
    ACalls Try.prog ro X 22 [.agg cs.toArray, .agg ds.toArray] A (fun r A' => r = .ret (.bool (decide (x = y))) ∧ Ext A A') := by
  obtain ⟨s1, G1, rfl, rfl, h1⟩ := rep_Program.1 h
  obtain ⟨s1', G1', rfl, rfl, h1'⟩ := rep_Program.1 h'
  have hsz : Mk.sz x = szL Mk.sz x := rfl
  refine ACalls.enterQ (rs := [.tmp 4]) Try.func22 rfl (by kernel_rfl) rfl ?_
  simp (maxSteps := 2000000) (disch := first | omega | (simp only [AH.size_new, AH.size_put] <;> omega) | fail) only [amR Try.prog ro X, amS, seval, reduceCtorEq, ty4, ty32, ty34, ty73]
  refine (eqL_Ins _ (by first | omega | (simp only [AH.size_new, AH.size_put] <;> omega)) s1 s1' _ _ _ _ (h1.ext (by ((repeat' (first | exact Ext.refl _ | assumption | refine Ext.trans ?_ (Ext.new _ _) | refine Ext.put ?_ ?_ _ | refine Ext.trans ?_ (by assumption))) <;> (first | omega | (simp only [AH.size_new, AH.size_put] <;> omega))))) (h1'.ext (by ((repeat' (first | exact Ext.refl _ | assumption | refine Ext.trans ?_ (Ext.new _ _) | refine Ext.put ?_ ?_ _ | refine Ext.trans ?_ (by assumption))) <;> (first | omega | (simp only [AH.size_new, AH.size_put] <;> omega))))) (by omega)).mono ?_
  rintro r B1 ⟨rfl, hE1⟩
  have v1 := hE1.size
  try simp only [AH.size_new, AH.size_put] at v1
  simp (maxSteps := 2000000) (disch := first | omega | (simp only [AH.size_new, AH.size_put] <;> omega) | fail) only [amR Try.prog ro X, amS, seval, reduceCtorEq, ty4, ty32, ty34, ty73, hE1.get]
  refine CondB.split (fun h => ?_) (fun h => ?_)
  · have hc : ¬ x = y := by simpa using h
    simp (maxSteps := 2000000) (disch := first | omega | (simp only [AH.size_new, AH.size_put] <;> omega) | fail) only [amR Try.prog ro X, amS, seval, reduceCtorEq, ty4, ty32, ty34, ty73, hE1.get]
    exact ⟨by rw [decide_eq_false (fun e => hc (by rw [e]))], by ((repeat' (first | exact Ext.refl _ | assumption | refine Ext.trans ?_ (Ext.new _ _) | refine Ext.put ?_ ?_ _ | refine Ext.trans ?_ (by assumption))) <;> (first | omega | (simp only [AH.size_new, AH.size_put] <;> omega)))⟩
  have c1 : x = y := by simpa using h
  simp (maxSteps := 2000000) (disch := first | omega | (simp only [AH.size_new, AH.size_put] <;> omega) | fail) only [amR Try.prog ro X, amS, seval, reduceCtorEq, ty4, ty32, ty34, ty73, hE1.get]
  exact ⟨by rw [decide_eq_true (c1)], by ((repeat' (first | exact Ext.refl _ | assumption | refine Ext.trans ?_ (Ext.new _ _) | refine Ext.put ?_ ?_ _ | refine Ext.trans ?_ (by assumption))) <;> (first | omega | (simp only [AH.size_new, AH.size_put] <;> omega)))⟩
theorem sz_Program (A : AH) (hro : ro ≤ A.size) (x : TProgram) (cs : List Value) (F : List Nat) (h : Dat.rep A x cs F) (hn : Mk.bd x) (left : Int) (hz : 0 ≤ left ∧ left ≤ 2097152) :
    ACalls Try.prog ro X 12 [.agg cs.toArray, .int .i64 left] A (fun r A' => r = .ret (.int .i64 (szR left (Mk.sz x))) ∧ Ext A A') := by
  obtain ⟨s1, G1, rfl, rfl, h1⟩ := rep_Program.1 h
  have hsz : Mk.sz x = szL Mk.sz x := rfl
  refine ACalls.enterQ (rs := [.tmp 4]) Try.func12 rfl (by kernel_rfl) rfl ?_
  simp (maxSteps := 2000000) (disch := first | omega | (simp only [AH.size_new, AH.size_put] <;> omega) | fail) only [amR Try.prog ro X, amS, seval, reduceCtorEq, ty3, ty22, ty24, ty72]
  refine (szL_Ins _ (by first | omega | (simp only [AH.size_new, AH.size_put] <;> omega)) s1 _ _ (h1.ext (by ((repeat' (first | exact Ext.refl _ | assumption | refine Ext.trans ?_ (Ext.new _ _) | refine Ext.put ?_ ?_ _ | refine Ext.trans ?_ (by assumption))) <;> (first | omega | (simp only [AH.size_new, AH.size_put] <;> omega))))) hn (left) (by omega)).mono ?_
  rintro r B1 ⟨rfl, hE1⟩
  have v1 := hE1.size
  try simp only [AH.size_new, AH.size_put] at v1
  by_cases c1 : left - (szL Mk.sz x : Nat) < 0
  · rw [szR_neg c1]
    simp (maxSteps := 2000000) (disch := first | omega | (simp only [AH.size_new, AH.size_put] <;> omega) | fail) only [amR Try.prog ro X, amS, seval, reduceCtorEq, ty3, ty22, ty24, ty72, hE1.get]
    exact ⟨(by rw [szR_neg (by omega : left - (Mk.sz x : Nat) < 0)]), by ((repeat' (first | exact Ext.refl _ | assumption | refine Ext.trans ?_ (Ext.new _ _) | refine Ext.put ?_ ?_ _ | refine Ext.trans ?_ (by assumption))) <;> (first | omega | (simp only [AH.size_new, AH.size_put] <;> omega)))⟩
  rw [szR_pos c1]
  simp (maxSteps := 2000000) (disch := first | omega | (simp only [AH.size_new, AH.size_put] <;> omega) | fail) only [amR Try.prog ro X, amS, seval, reduceCtorEq, ty3, ty22, ty24, ty72, hE1.get, c1]
  exact ⟨by rw [szR_pos (by omega : ¬ left - (Mk.sz x : Nat) < 0)]; congr 2 <;> omega, by ((repeat' (first | exact Ext.refl _ | assumption | refine Ext.trans ?_ (Ext.new _ _) | refine Ext.put ?_ ?_ _ | refine Ext.trans ?_ (by assumption))) <;> (first | omega | (simp only [AH.size_new, AH.size_put] <;> omega)))⟩
theorem to_Seen (A : AH) (hro : ro ≤ A.size) (x : TSeen) (cs : List Value) (F : List Nat) (h : Dat.rep A x cs F) (hz : Mk.sz x < 4294967296) :
    ACalls Try.prog ro X 19 [.agg cs.toArray] A (fun r A' => ∃ cs' F', r = .ret (.agg cs'.toArray) ∧ Dat.rep A' x cs' F' ∧ Fresh A F' A' ∧ Ext A A') := by
  obtain ⟨rfl, rfl, z1, z2⟩ := rep_Seen.1 h
  have y1 := big_lt z1
  have y2 := big_lt z2
  have hsz : Mk.sz x = x.1.size + (0 + (x.2.2.size)) := rfl
  refine ACalls.enterQ (rs := [.cell 2 52]) Try.func19 rfl (by kernel_rfl) rfl ?_
  simp (maxSteps := 2000000) (disch := first | omega | (simp only [AH.size_new, AH.size_put] <;> omega) | fail) only [amR Try.prog ro X, amS, seval, reduceCtorEq, ty4, ty9, ty48, ty52]
  exact ⟨_, _, rfl, rep_Seen.2 ⟨rfl, rfl, z1, z2⟩, Fresh.nil _ _, by ((repeat' (first | exact Ext.refl _ | assumption | refine Ext.trans ?_ (Ext.new _ _) | refine Ext.put ?_ ?_ _ | refine Ext.trans ?_ (by assumption))) <;> (first | omega | (simp only [AH.size_new, AH.size_put] <;> omega)))⟩
theorem toL_Seen (A : AH) (hro : ro ≤ A.size) (s : Sl) (l : List TSeen) (F : List Nat) (hs : SlR A s l F) (hz : szL Mk.sz l < 4294967296) :
    ACalls Try.prog ro X 8 [s.v] A (fun r A' => ∃ t G, r = .ret t.v ∧ SlR A' t l G ∧ Fresh A G A' ∧ Ext A A') := by
  have hl := szL_length Mk.sz l
  refine ACalls.enterQ (rs := [.tmp 2]) Try.func8 rfl (by kernel_rfl) rfl ?_
  simp (maxSteps := 2000000) (disch := first | omega | (simp only [AH.size_new, AH.size_put] <;> omega) | fail) only [amR Try.prog ro X, amS, seval, reduceCtorEq, ty3, ty4, ty9, ty28, ty39, ty48, ty52, hs.len]
  refine Wp.loopC (fun n e A' => Ext A A' ∧ A.size < A'.size ∧ e 0 = s.v ∧ e 3 = (Sl.mk false A.size 0 l.length l.length).v ∧ ∃ i : Nat, i ≤ l.length ∧ n = l.length - i ∧ e 4 = .int .i64 i ∧ ∃ G, Part A' A.size l.length (l.take i) G ∧ Fresh (A.new .dead) G A') (l.length - 0) ?_ ?_
  · simp (maxSteps := 2000000) (disch := first | omega | (simp only [AH.size_new, AH.size_put] <;> omega) | fail) only [amV, amH, amQ, amL, amN Try.prog, amS, seval, reduceCtorEq, ty3, ty4, ty9, ty28, ty39, ty48, ty52]
    refine ⟨Ext.new A _, by omega, 0, by omega, rfl, rfl, [], ?_, Fresh.nil _ _⟩
    rw [List.take_zero]
    exact Part.start (by simp [AH.size_new]) (AH.get_new_self _ _) (fill_flat _ _ _ rfl)
  · rintro n e A' ⟨hE, hlt, h0, h3, i, hi, rfl, h4, G, hp, hf⟩
    have hs' := hs.ext hE
    simp (maxSteps := 2000000) (disch := first | omega | (simp only [AH.size_new, AH.size_put] <;> omega) | fail) only [amR Try.prog ro X, amS, seval, reduceCtorEq, ty3, ty4, ty9, ty28, ty39, ty48, ty52, h0, h3, h4, hs.len]
    refine CondB.split (fun h => ?_) (fun h => ?_)
    · have hil : i < l.length := by simp at h; omega
      obtain ⟨n1, b1, m1, i1, cs, Fi, c1, q1, _⟩ := hs'.row hil
      rw [aRow_eq] at c1
      have hw : Dat.w TSeen = 3 := rfl
      rw [hw] at c1
      have hzi := szL_get Mk.sz l i hil
      simp (maxSteps := 2000000) (disch := first | omega | (simp only [AH.size_new, AH.size_put] <;> omega) | fail) only [amR Try.prog ro X, amS, seval, reduceCtorEq, ty3, ty4, ty9, ty28, ty39, ty48, ty52, h0, h3, h4, n1, c1]
      refine (to_Seen _ (by omega) l[i] cs Fi q1 (by omega)).mono ?_
      rintro r A2 ⟨cs', F', rfl, q2, f2, hE2⟩
      have v2 := hE2.size
      have hp2 := hp.ext hE2
      have hl2 : cs'.length = 3 := Dat.len q2
      obtain ⟨hlt2, ⟨c, g1, g2, g3⟩, hle⟩ := id hp2
      have hwl : (i + 1) * 3 ≤ l.length * 3 := Nat.mul_le_mul_right _ hil
      rw [hw] at g1 g2
      simp (maxSteps := 2000000) (disch := first | omega | (simp only [AH.size_new, AH.size_put] <;> omega) | fail) only [amR Try.prog ro X, amS, seval, reduceCtorEq, ty3, ty4, ty9, ty28, ty39, ty48, ty52, h0, h3, h4, g1, hl2]
      refine ⟨l.length - (i + 1), by omega, (hE.trans hE2).put (Nat.le_refl _) _, by omega, i + 1, by omega, rfl, by simp, G ++ F', ?_, (hf.mono (Nat.le_refl _) (Nat.le_refl _)).append (f2.mono (Nat.le_refl _) (Nat.le_refl _)) (by simp [AH.size_new]; omega) v2⟩
      have := hp2.store (fun hm => by have := hf.lo _ hm; simp [AH.size_new] at this; omega) q2 (fun hm => by have := f2.lo _ hm; omega) (by simp; omega) g1
      rw [List.take_succ_eq_append_getElem hil]
      rw [List.length_take, Nat.min_eq_left hi, hw] at this
      exact this
    · have hil : i = l.length := by simp at h; omega
      subst hil
      simp (maxSteps := 2000000) (disch := first | omega | (simp only [AH.size_new, AH.size_put] <;> omega) | fail) only [amR Try.prog ro X, amS, seval, reduceCtorEq, ty3, ty4, ty9, ty28, ty39, ty48, ty52, h3]
      rw [List.take_length] at hp
      exact ⟨_, _, rfl, hp.done rfl (by unfold BIG; omega), Fresh.cons (Nat.le_refl _) (by simp [AH.size_new]) hf (by simp only [AH.size_new]; omega) (by simp only [AH.size_new]; omega), hE⟩
theorem eq_Seen (A : AH) (hro : ro ≤ A.size) (x y : TSeen) (cs ds : List Value) (F F' : List Nat) (h : Dat.rep A x cs F) (h' : Dat.rep A y ds F') (hz : Mk.sz x < 4294967296) :
    ACalls Try.prog ro X 24 [.agg cs.toArray, .agg ds.toArray] A (fun r A' => r = .ret (.bool (decide (x = y))) ∧ Ext A A') := by
  obtain ⟨rfl, rfl, z1, z2⟩ := rep_Seen.1 h
  obtain ⟨rfl, rfl, z1', z2'⟩ := rep_Seen.1 h'
  have hsz : Mk.sz x = x.1.size + (0 + (x.2.2.size)) := rfl
  refine ACalls.enterQ (rs := [.tmp 4]) Try.func24 rfl (by kernel_rfl) rfl ?_
  simp (maxSteps := 2000000) (disch := first | omega | (simp only [AH.size_new, AH.size_put] <;> omega) | fail) only [amR Try.prog ro X, amS, seval, reduceCtorEq, ty4, ty9, ty52]
  refine CondB.split (fun h => ?_) (fun h => ?_)
  · have hc : ¬ x.1 = y.1 := by simpa using h
    simp (maxSteps := 2000000) (disch := first | omega | (simp only [AH.size_new, AH.size_put] <;> omega) | fail) only [amR Try.prog ro X, amS, seval, reduceCtorEq, ty4, ty9, ty52]
    exact ⟨by rw [decide_eq_false (fun e => hc (by rw [e]))], by ((repeat' (first | exact Ext.refl _ | assumption | refine Ext.trans ?_ (Ext.new _ _) | refine Ext.put ?_ ?_ _ | refine Ext.trans ?_ (by assumption))) <;> (first | omega | (simp only [AH.size_new, AH.size_put] <;> omega)))⟩
  have c1 : x.1 = y.1 := by simpa using h
  simp (maxSteps := 2000000) (disch := first | omega | (simp only [AH.size_new, AH.size_put] <;> omega) | fail) only [amR Try.prog ro X, amS, seval, reduceCtorEq, ty4, ty9, ty52]
  refine CondB.split (fun h => ?_) (fun h => ?_)
  · have hc : ¬ x.2.1 = y.2.1 := by simpa using h
    simp (maxSteps := 2000000) (disch := first | omega | (simp only [AH.size_new, AH.size_put] <;> omega) | fail) only [amR Try.prog ro X, amS, seval, reduceCtorEq, ty4, ty9, ty52]
    exact ⟨by rw [decide_eq_false (fun e => hc (by rw [e]))], by ((repeat' (first | exact Ext.refl _ | assumption | refine Ext.trans ?_ (Ext.new _ _) | refine Ext.put ?_ ?_ _ | refine Ext.trans ?_ (by assumption))) <;> (first | omega | (simp only [AH.size_new, AH.size_put] <;> omega)))⟩
  have c2 : x.2.1 = y.2.1 := by simpa using h
  simp (maxSteps := 2000000) (disch := first | omega | (simp only [AH.size_new, AH.size_put] <;> omega) | fail) only [amR Try.prog ro X, amS, seval, reduceCtorEq, ty4, ty9, ty52]
  refine CondB.split (fun h => ?_) (fun h => ?_)
  · have hc : ¬ x.2.2 = y.2.2 := by simpa using h
    simp (maxSteps := 2000000) (disch := first | omega | (simp only [AH.size_new, AH.size_put] <;> omega) | fail) only [amR Try.prog ro X, amS, seval, reduceCtorEq, ty4, ty9, ty52]
    exact ⟨by rw [decide_eq_false (fun e => hc (by rw [e]))], by ((repeat' (first | exact Ext.refl _ | assumption | refine Ext.trans ?_ (Ext.new _ _) | refine Ext.put ?_ ?_ _ | refine Ext.trans ?_ (by assumption))) <;> (first | omega | (simp only [AH.size_new, AH.size_put] <;> omega)))⟩
  have c3 : x.2.2 = y.2.2 := by simpa using h
  simp (maxSteps := 2000000) (disch := first | omega | (simp only [AH.size_new, AH.size_put] <;> omega) | fail) only [amR Try.prog ro X, amS, seval, reduceCtorEq, ty4, ty9, ty52]
  exact ⟨by rw [decide_eq_true (Prod.ext c1 (Prod.ext c2 (c3)))], by ((repeat' (first | exact Ext.refl _ | assumption | refine Ext.trans ?_ (Ext.new _ _) | refine Ext.put ?_ ?_ _ | refine Ext.trans ?_ (by assumption))) <;> (first | omega | (simp only [AH.size_new, AH.size_put] <;> omega)))⟩
theorem eqL_Seen (A : AH) (hro : ro ≤ A.size) (s t : Sl) (l k : List TSeen) (F G : List Nat) (hs : SlR A s l F) (ht : SlR A t k G) (hz : szL Mk.sz l < 4294967296) :
    ACalls Try.prog ro X 11 [s.v, t.v] A (fun r A' => r = .ret (.bool (decide (l = k))) ∧ Ext A A') := by
  have hl := szL_length Mk.sz l
  have hw : Dat.w TSeen = 3 := rfl
  refine ACalls.enterQ (rs := [.tmp 4]) Try.func11 rfl (by kernel_rfl) rfl ?_
  simp (maxSteps := 2000000) (disch := first | omega | (simp only [AH.size_new, AH.size_put] <;> omega) | fail) only [amR Try.prog ro X, amS, seval, reduceCtorEq, ty3, ty4, ty9, ty39, ty52, hs.len, ht.len]
  refine CondB.split (fun h => ?_) (fun h => ?_)
  · simp (maxSteps := 2000000) (disch := first | omega | (simp only [AH.size_new, AH.size_put] <;> omega) | fail) only [amR Try.prog ro X, amS, seval, reduceCtorEq, ty3, ty4, ty9, ty39, ty52]
    have : l ≠ k := fun e => by simp [e] at h
    simp [this, Ext.refl]
  · simp (maxSteps := 2000000) (disch := first | omega | (simp only [AH.size_new, AH.size_put] <;> omega) | fail) only [amR Try.prog ro X, amS, seval, reduceCtorEq, ty3, ty4, ty9, ty39, ty52]
    have hlk : l.length = k.length := by simp at h; omega
    refine Wp.loopC (fun n e A' => Ext A A' ∧ e 0 = s.v ∧ e 1 = t.v ∧ ∃ i : Nat, i ≤ l.length ∧ n = l.length - i ∧ e 5 = .int .i64 i ∧ l.take i = k.take i) (l.length - 0) ?_ ?_
    · simp (maxSteps := 2000000) (disch := first | omega | (simp only [AH.size_new, AH.size_put] <;> omega) | fail) only [amV, amH, amQ, amL, amN Try.prog, amS, seval, reduceCtorEq, ty3, ty4, ty9, ty39, ty52]
      exact ⟨Ext.refl A, 0, by simp, rfl, rfl, by simp⟩
    · rintro n e A' ⟨hE, h0, h1, i, hi, rfl, h5, heq⟩
      have v1 := hE.size
      simp (maxSteps := 2000000) (disch := first | omega | (simp only [AH.size_new, AH.size_put] <;> omega) | fail) only [amR Try.prog ro X, amS, seval, reduceCtorEq, ty3, ty4, ty9, ty39, ty52, h0, h1, h5, hs.len]
      refine CondB.split (fun h => ?_) (fun h => ?_)
      · simp (maxSteps := 2000000) (disch := first | omega | (simp only [AH.size_new, AH.size_put] <;> omega) | fail) only [amR Try.prog ro X, amS, seval, reduceCtorEq, ty3, ty4, ty9, ty39, ty52]
        have hil : i < l.length := by simp at h; omega
        obtain ⟨n1, b1, m1, i1, cs, Fi, c1, q1, _⟩ := (hs.ext hE).row hil
        obtain ⟨n2, b2, m2, i2, ds, Gi, c2, q2, _⟩ := (ht.ext hE).row (i := i) (by omega)
        rw [aRow_eq, hw] at c1 c2
        have hzi := szL_get Mk.sz l i hil
        refine Wp.runG [] (by kernel_rfl) (.inl (by kernel_rfl)) ?_
        simp (maxSteps := 2000000) (disch := first | omega | (simp only [AH.size_new, AH.size_put] <;> omega) | fail) only [amR Try.prog ro X, amS, seval, reduceCtorEq, ty3, ty4, ty9, ty39, ty52, h0, h1, h5, n1, n2, c1, c2]
        refine (eq_Seen _ (by omega) l[i] k[i] cs ds Fi Gi q1 q2 (by omega)).mono ?_
        rintro r A2 ⟨rfl, hE2⟩
        simp (maxSteps := 2000000) (disch := first | omega | (simp only [AH.size_new, AH.size_put] <;> omega) | fail) only [amR Try.prog ro X, amS, seval, reduceCtorEq, ty3, ty4, ty9, ty39, ty52]
        refine CondB.split (fun h => ?_) (fun h => ?_)
        · simp (maxSteps := 2000000) (disch := first | omega | (simp only [AH.size_new, AH.size_put] <;> omega) | fail) only [amR Try.prog ro X, amS, seval, reduceCtorEq, ty3, ty4, ty9, ty39, ty52]
          have : l ≠ k := by
            intro e
            subst e
            simp at h
          simp [this, hE.trans hE2]
        · simp (maxSteps := 2000000) (disch := first | omega | (simp only [AH.size_new, AH.size_put] <;> omega) | fail) only [amR Try.prog ro X, amS, seval, reduceCtorEq, ty3, ty4, ty9, ty39, ty52, h0, h1, h5]
          refine ⟨l.length - (i + 1), by omega, hE.trans hE2, i + 1, by omega, rfl, by simp, ?_⟩
          rw [List.take_succ_eq_append_getElem hil, List.take_succ_eq_append_getElem (by omega : i < k.length), heq]
          have : l[i] = k[i] := by simpa using h
          rw [this]
      · simp (maxSteps := 2000000) (disch := first | omega | (simp only [AH.size_new, AH.size_put] <;> omega) | fail) only [amR Try.prog ro X, amS, seval, reduceCtorEq, ty3, ty4, ty9, ty39, ty52]
        have : l = k := by
          have hi2 : i = l.length := by simp at h; omega
          subst hi2
          rw [List.take_length] at heq
          rw [hlk, List.take_length] at heq
          exact heq
        simp [this, hE]
theorem sz_Seen (A : AH) (hro : ro ≤ A.size) (x : TSeen) (cs : List Value) (F : List Nat) (h : Dat.rep A x cs F) (hn : Mk.bd x) (left : Int) (hz : 0 ≤ left ∧ left ≤ 2097152) :
    ACalls Try.prog ro X 14 [.agg cs.toArray, .int .i64 left] A (fun r A' => r = .ret (.int .i64 (szR left (Mk.sz x))) ∧ Ext A A') := by
  obtain ⟨rfl, rfl, z1, z2⟩ := rep_Seen.1 h
  have y1 := big_lt z1
  have y2 := big_lt z2
  have hsz : Mk.sz x = x.1.size + (0 + (x.2.2.size)) := rfl
  refine ACalls.enterQ (rs := [.tmp 4]) Try.func14 rfl (by kernel_rfl) rfl ?_
  simp (maxSteps := 2000000) (disch := first | omega | (simp only [AH.size_new, AH.size_put] <;> omega) | fail) only [amR Try.prog ro X, amS, seval, reduceCtorEq, ty3, ty4, ty9, ty48]
  refine CondB.split (fun h => ?_) (fun h => ?_)
  · have hc : left - (x.1.size : Nat) < 0 := by simpa using h
    simp (maxSteps := 2000000) (disch := first | omega | (simp only [AH.size_new, AH.size_put] <;> omega) | fail) only [amR Try.prog ro X, amS, seval, reduceCtorEq, ty3, ty4, ty9, ty48]
    exact ⟨(by rw [szR_neg (by omega : left - (Mk.sz x : Nat) < 0)]), by ((repeat' (first | exact Ext.refl _ | assumption | refine Ext.trans ?_ (Ext.new _ _) | refine Ext.put ?_ ?_ _ | refine Ext.trans ?_ (by assumption))) <;> (first | omega | (simp only [AH.size_new, AH.size_put] <;> omega)))⟩
  have c1 : ¬ (left - (x.1.size : Nat) < 0) := by simpa using h
  simp (maxSteps := 2000000) (disch := first | omega | (simp only [AH.size_new, AH.size_put] <;> omega) | fail) only [amR Try.prog ro X, amS, seval, reduceCtorEq, ty3, ty4, ty9, ty48]
  refine CondB.split (fun h => ?_) (fun h => ?_)
  · have hc : left - (x.1.size : Nat) - (x.2.2.size : Nat) < 0 := by simpa using h
    simp (maxSteps := 2000000) (disch := first | omega | (simp only [AH.size_new, AH.size_put] <;> omega) | fail) only [amR Try.prog ro X, amS, seval, reduceCtorEq, ty3, ty4, ty9, ty48]
    exact ⟨(by rw [szR_neg (by omega : left - (Mk.sz x : Nat) < 0)]), by ((repeat' (first | exact Ext.refl _ | assumption | refine Ext.trans ?_ (Ext.new _ _) | refine Ext.put ?_ ?_ _ | refine Ext.trans ?_ (by assumption))) <;> (first | omega | (simp only [AH.size_new, AH.size_put] <;> omega)))⟩
  have c2 : ¬ (left - (x.1.size : Nat) - (x.2.2.size : Nat) < 0) := by simpa using h
  simp (maxSteps := 2000000) (disch := first | omega | (simp only [AH.size_new, AH.size_put] <;> omega) | fail) only [amR Try.prog ro X, amS, seval, reduceCtorEq, ty3, ty4, ty9, ty48]
  exact ⟨by rw [szR_pos (by omega : ¬ left - (Mk.sz x : Nat) < 0)]; congr 2 <;> omega, by ((repeat' (first | exact Ext.refl _ | assumption | refine Ext.trans ?_ (Ext.new _ _) | refine Ext.put ?_ ?_ _ | refine Ext.trans ?_ (by assumption))) <;> (first | omega | (simp only [AH.size_new, AH.size_put] <;> omega)))⟩
theorem szL_Seen (A : AH) (hro : ro ≤ A.size) (s : Sl) (l : List TSeen) (F : List Nat) (hs : SlR A s l F) (hn : Mk.bd l) (left : Int) (hz : 0 ≤ left ∧ left ≤ 2097152) :
    ACalls Try.prog ro X 5 [s.v, .int .i64 left] A (fun r A' => r = .ret (.int .i64 (szR left (szL Mk.sz l))) ∧ Ext A A') := by
  have hl := hn.1
  have hw : Dat.w TSeen = 3 := rfl
  refine ACalls.enterQ (rs := [.tmp 4]) Try.func5 rfl (by kernel_rfl) rfl ?_
  simp (maxSteps := 2000000) (disch := first | omega | (simp only [AH.size_new, AH.size_put] <;> omega) | fail) only [amR Try.prog ro X, amS, seval, reduceCtorEq, ty3, ty4, ty9, ty28, ty48, hs.len]
  refine CondB.split (fun h => ?_) (fun h => ?_)
  · simp (maxSteps := 2000000) (disch := first | omega | (simp only [AH.size_new, AH.size_put] <;> omega) | fail) only [amR Try.prog ro X, amS, seval, reduceCtorEq, ty3, ty4, ty9, ty28, ty48]
    have h2 : left - l.length < 0 := by simpa using h
    have := szL_length Mk.sz l
    exact ⟨by rw [szR_neg (by omega)], Ext.refl A⟩
  · simp (maxSteps := 2000000) (disch := first | omega | (simp only [AH.size_new, AH.size_put] <;> omega) | fail) only [amR Try.prog ro X, amS, seval, reduceCtorEq, ty3, ty4, ty9, ty28, ty48]
    refine Wp.loopC (fun n e A' => Ext A A' ∧ e 0 = s.v ∧ ∃ i : Nat, i ≤ l.length ∧ n = l.length - i ∧ e 5 = .int .i64 i ∧ e 1 = .int .i64 (left - szL Mk.sz (l.take i) + i - l.length) ∧ 0 ≤ left - szL Mk.sz (l.take i) + i - l.length) (l.length - 0) ?_ ?_
    · simp (maxSteps := 2000000) (disch := first | omega | (simp only [AH.size_new, AH.size_put] <;> omega) | fail) only [amV, amH, amQ, amL, amN Try.prog, amS, seval, reduceCtorEq, ty3, ty4, ty9, ty28, ty48]
      refine ⟨Ext.refl A, 0, by omega, rfl, rfl, ?_⟩
      have : 0 ≤ left - l.length := by simpa using h
      simp only [List.take_zero, szL_nil]
      exact ⟨by congr 1 <;> omega, by omega⟩
    · rintro n e A' ⟨hE, h0, i, hi, rfl, h5, h1, hle⟩
      have v1 := hE.size
      simp (maxSteps := 2000000) (disch := first | omega | (simp only [AH.size_new, AH.size_put] <;> omega) | fail) only [amR Try.prog ro X, amS, seval, reduceCtorEq, ty3, ty4, ty9, ty28, ty48, h0, h5, hs.len]
      refine CondB.split (fun h => ?_) (fun h => ?_)
      · have hil : i < l.length := by simp at h; omega
        obtain ⟨n1, b1, m1, i1, cs, Fi, c1, q1, _⟩ := (hs.ext hE).row hil
        rw [aRow_eq, hw] at c1
        have hst := szL_take_succ Mk.sz l i hil
        have hge := szL_take_le Mk.sz l (i + 1)
        have hge0 := szL_take_le Mk.sz l i
        have hti := szL_length Mk.sz (l.take i)
        rw [List.length_take, Nat.min_eq_left hi] at hti
        simp (maxSteps := 2000000) (disch := first | omega | (simp only [AH.size_new, AH.size_put] <;> omega) | fail) only [amR Try.prog ro X, amS, seval, reduceCtorEq, ty3, ty4, ty9, ty28, ty48, h0, h1, h5, n1, c1]
        refine (sz_Seen _ (by omega) l[i] cs Fi q1 (hn.2 _ (List.getElem_mem hil)) _ ⟨hle, by omega⟩).mono ?_
        rintro r A2 ⟨rfl, hE2⟩
        by_cases hc : left - szL Mk.sz (l.take i) + i - l.length - (Mk.sz l[i] : Nat) < 0
        · rw [szR_neg hc]
          simp (maxSteps := 2000000) (disch := first | omega | (simp only [AH.size_new, AH.size_put] <;> omega) | fail) only [amR Try.prog ro X, amS, seval, reduceCtorEq, ty3, ty4, ty9, ty28, ty48]
          exact ⟨by rw [szR_neg (by omega)], hE.trans hE2⟩
        · rw [szR_pos hc]
          simp (maxSteps := 2000000) (disch := first | omega | (simp only [AH.size_new, AH.size_put] <;> omega) | fail) only [amR Try.prog ro X, amS, seval, reduceCtorEq, ty3, ty4, ty9, ty28, ty48, h0, h5, hc]
          exact ⟨l.length - (i + 1), by omega, hE.trans hE2, i + 1, by omega, rfl, rfl, by congr 1 <;> omega, by omega⟩
      · have hil : i = l.length := by simp at h; omega
        subst hil
        rw [List.take_length] at h1 hle
        simp (maxSteps := 2000000) (disch := first | omega | (simp only [AH.size_new, AH.size_put] <;> omega) | fail) only [amR Try.prog ro X, amS, seval, reduceCtorEq, ty3, ty4, ty9, ty28, ty48, h1]
        exact ⟨by rw [szR_pos (by omega)]; congr 2; omega, hE⟩
theorem to_Glance (A : AH) (hro : ro ≤ A.size) (x : TGlance) (cs : List Value) (F : List Nat) (h : Dat.rep A x cs F) (hz : Mk.sz x < 4294967296) :
    ACalls Try.prog ro X 28 [.agg cs.toArray] A (fun r A' => ∃ cs' F', r = .ret (.agg cs'.toArray) ∧ Dat.rep A' x cs' F' ∧ Fresh A F' A' ∧ Ext A A') := by
  obtain ⟨rfl, rfl, z1, z2⟩ := rep_Glance.1 h
  have y1 := big_lt z1
  have y2 := big_lt z2
  have hsz : Mk.sz x = x.1.size + (0 + (x.2.2.size)) := rfl
  refine ACalls.enterQ (rs := [.cell 2 51]) Try.func28 rfl (by kernel_rfl) rfl ?_
  simp (maxSteps := 2000000) (disch := first | omega | (simp only [AH.size_new, AH.size_put] <;> omega) | fail) only [amR Try.prog ro X, amS, seval, reduceCtorEq, ty4, ty9, ty51, ty62]
  exact ⟨_, _, rfl, rep_Glance.2 ⟨rfl, rfl, z1, z2⟩, Fresh.nil _ _, by ((repeat' (first | exact Ext.refl _ | assumption | refine Ext.trans ?_ (Ext.new _ _) | refine Ext.put ?_ ?_ _ | refine Ext.trans ?_ (by assumption))) <;> (first | omega | (simp only [AH.size_new, AH.size_put] <;> omega)))⟩
theorem toL_Glance (A : AH) (hro : ro ≤ A.size) (s : Sl) (l : List TGlance) (F : List Nat) (hs : SlR A s l F) (hz : szL Mk.sz l < 4294967296) :
    ACalls Try.prog ro X 18 [s.v] A (fun r A' => ∃ t G, r = .ret t.v ∧ SlR A' t l G ∧ Fresh A G A' ∧ Ext A A') := by
  have hl := szL_length Mk.sz l
  refine ACalls.enterQ (rs := [.tmp 2]) Try.func18 rfl (by kernel_rfl) rfl ?_
  simp (maxSteps := 2000000) (disch := first | omega | (simp only [AH.size_new, AH.size_put] <;> omega) | fail) only [amR Try.prog ro X, amS, seval, reduceCtorEq, ty3, ty4, ty9, ty25, ty35, ty51, ty62, hs.len]
  refine Wp.loopC (fun n e A' => Ext A A' ∧ A.size < A'.size ∧ e 0 = s.v ∧ e 3 = (Sl.mk false A.size 0 l.length l.length).v ∧ ∃ i : Nat, i ≤ l.length ∧ n = l.length - i ∧ e 4 = .int .i64 i ∧ ∃ G, Part A' A.size l.length (l.take i) G ∧ Fresh (A.new .dead) G A') (l.length - 0) ?_ ?_
  · simp (maxSteps := 2000000) (disch := first | omega | (simp only [AH.size_new, AH.size_put] <;> omega) | fail) only [amV, amH, amQ, amL, amN Try.prog, amS, seval, reduceCtorEq, ty3, ty4, ty9, ty25, ty35, ty51, ty62]
    refine ⟨Ext.new A _, by omega, 0, by omega, rfl, rfl, [], ?_, Fresh.nil _ _⟩
    rw [List.take_zero]
    exact Part.start (by simp [AH.size_new]) (AH.get_new_self _ _) (fill_flat _ _ _ rfl)
  · rintro n e A' ⟨hE, hlt, h0, h3, i, hi, rfl, h4, G, hp, hf⟩
    have hs' := hs.ext hE
    simp (maxSteps := 2000000) (disch := first | omega | (simp only [AH.size_new, AH.size_put] <;> omega) | fail) only [amR Try.prog ro X, amS, seval, reduceCtorEq, ty3, ty4, ty9, ty25, ty35, ty51, ty62, h0, h3, h4, hs.len]
    refine CondB.split (fun h => ?_) (fun h => ?_)
    · have hil : i < l.length := by simp at h; omega
      obtain ⟨n1, b1, m1, i1, cs, Fi, c1, q1, _⟩ := hs'.row hil
      rw [aRow_eq] at c1
      have hw : Dat.w TGlance = 3 := rfl
      rw [hw] at c1
      have hzi := szL_get Mk.sz l i hil
      simp (maxSteps := 2000000) (disch := first | omega | (simp only [AH.size_new, AH.size_put] <;> omega) | fail) only [amR Try.prog ro X, amS, seval, reduceCtorEq, ty3, ty4, ty9, ty25, ty35, ty51, ty62, h0, h3, h4, n1, c1]
      refine (to_Glance _ (by omega) l[i] cs Fi q1 (by omega)).mono ?_
      rintro r A2 ⟨cs', F', rfl, q2, f2, hE2⟩
      have v2 := hE2.size
      have hp2 := hp.ext hE2
      have hl2 : cs'.length = 3 := Dat.len q2
      obtain ⟨hlt2, ⟨c, g1, g2, g3⟩, hle⟩ := id hp2
      have hwl : (i + 1) * 3 ≤ l.length * 3 := Nat.mul_le_mul_right _ hil
      rw [hw] at g1 g2
      simp (maxSteps := 2000000) (disch := first | omega | (simp only [AH.size_new, AH.size_put] <;> omega) | fail) only [amR Try.prog ro X, amS, seval, reduceCtorEq, ty3, ty4, ty9, ty25, ty35, ty51, ty62, h0, h3, h4, g1, hl2]
      refine ⟨l.length - (i + 1), by omega, (hE.trans hE2).put (Nat.le_refl _) _, by omega, i + 1, by omega, rfl, by simp, G ++ F', ?_, (hf.mono (Nat.le_refl _) (Nat.le_refl _)).append (f2.mono (Nat.le_refl _) (Nat.le_refl _)) (by simp [AH.size_new]; omega) v2⟩
      have := hp2.store (fun hm => by have := hf.lo _ hm; simp [AH.size_new] at this; omega) q2 (fun hm => by have := f2.lo _ hm; omega) (by simp; omega) g1
      rw [List.take_succ_eq_append_getElem hil]
      rw [List.length_take, Nat.min_eq_left hi, hw] at this
      exact this
    · have hil : i = l.length := by simp at h; omega
      subst hil
      simp (maxSteps := 2000000) (disch := first | omega | (simp only [AH.size_new, AH.size_put] <;> omega) | fail) only [amR Try.prog ro X, amS, seval, reduceCtorEq, ty3, ty4, ty9, ty25, ty35, ty51, ty62, h3]
      rw [List.take_length] at hp
      exact ⟨_, _, rfl, hp.done rfl (by unfold BIG; omega), Fresh.cons (Nat.le_refl _) (by simp [AH.size_new]) hf (by simp only [AH.size_new]; omega) (by simp only [AH.size_new]; omega), hE⟩
theorem eq_Glance (A : AH) (hro : ro ≤ A.size) (x y : TGlance) (cs ds : List Value) (F F' : List Nat) (h : Dat.rep A x cs F) (h' : Dat.rep A y ds F') (hz : Mk.sz x < 4294967296) :
    ACalls Try.prog ro X 30 [.agg cs.toArray, .agg ds.toArray] A (fun r A' => r = .ret (.bool (decide (x = y))) ∧ Ext A A') := by
  obtain ⟨rfl, rfl, z1, z2⟩ := rep_Glance.1 h
  obtain ⟨rfl, rfl, z1', z2'⟩ := rep_Glance.1 h'
  have hsz : Mk.sz x = x.1.size + (0 + (x.2.2.size)) := rfl
  refine ACalls.enterQ (rs := [.tmp 4]) Try.func30 rfl (by kernel_rfl) rfl ?_
  simp (maxSteps := 2000000) (disch := first | omega | (simp only [AH.size_new, AH.size_put] <;> omega) | fail) only [amR Try.prog ro X, amS, seval, reduceCtorEq, ty4, ty9, ty51]
  refine CondB.split (fun h => ?_) (fun h => ?_)
  · have hc : ¬ x.1 = y.1 := by simpa using h
    simp (maxSteps := 2000000) (disch := first | omega | (simp only [AH.size_new, AH.size_put] <;> omega) | fail) only [amR Try.prog ro X, amS, seval, reduceCtorEq, ty4, ty9, ty51]
    exact ⟨by rw [decide_eq_false (fun e => hc (by rw [e]))], by ((repeat' (first | exact Ext.refl _ | assumption | refine Ext.trans ?_ (Ext.new _ _) | refine Ext.put ?_ ?_ _ | refine Ext.trans ?_ (by assumption))) <;> (first | omega | (simp only [AH.size_new, AH.size_put] <;> omega)))⟩
  have c1 : x.1 = y.1 := by simpa using h
  simp (maxSteps := 2000000) (disch := first | omega | (simp only [AH.size_new, AH.size_put] <;> omega) | fail) only [amR Try.prog ro X, amS, seval, reduceCtorEq, ty4, ty9, ty51]
  refine CondB.split (fun h => ?_) (fun h => ?_)
  · have hc : ¬ x.2.1 = y.2.1 := by simpa using h
    simp (maxSteps := 2000000) (disch := first | omega | (simp only [AH.size_new, AH.size_put] <;> omega) | fail) only [amR Try.prog ro X, amS, seval, reduceCtorEq, ty4, ty9, ty51]
    exact ⟨by rw [decide_eq_false (fun e => hc (by rw [e]))], by ((repeat' (first | exact Ext.refl _ | assumption | refine Ext.trans ?_ (Ext.new _ _) | refine Ext.put ?_ ?_ _ | refine Ext.trans ?_ (by assumption))) <;> (first | omega | (simp only [AH.size_new, AH.size_put] <;> omega)))⟩
  have c2 : x.2.1 = y.2.1 := by simpa using h
  simp (maxSteps := 2000000) (disch := first | omega | (simp only [AH.size_new, AH.size_put] <;> omega) | fail) only [amR Try.prog ro X, amS, seval, reduceCtorEq, ty4, ty9, ty51]
  refine CondB.split (fun h => ?_) (fun h => ?_)
  · have hc : ¬ x.2.2 = y.2.2 := by simpa using h
    simp (maxSteps := 2000000) (disch := first | omega | (simp only [AH.size_new, AH.size_put] <;> omega) | fail) only [amR Try.prog ro X, amS, seval, reduceCtorEq, ty4, ty9, ty51]
    exact ⟨by rw [decide_eq_false (fun e => hc (by rw [e]))], by ((repeat' (first | exact Ext.refl _ | assumption | refine Ext.trans ?_ (Ext.new _ _) | refine Ext.put ?_ ?_ _ | refine Ext.trans ?_ (by assumption))) <;> (first | omega | (simp only [AH.size_new, AH.size_put] <;> omega)))⟩
  have c3 : x.2.2 = y.2.2 := by simpa using h
  simp (maxSteps := 2000000) (disch := first | omega | (simp only [AH.size_new, AH.size_put] <;> omega) | fail) only [amR Try.prog ro X, amS, seval, reduceCtorEq, ty4, ty9, ty51]
  exact ⟨by rw [decide_eq_true (Prod.ext c1 (Prod.ext c2 (c3)))], by ((repeat' (first | exact Ext.refl _ | assumption | refine Ext.trans ?_ (Ext.new _ _) | refine Ext.put ?_ ?_ _ | refine Ext.trans ?_ (by assumption))) <;> (first | omega | (simp only [AH.size_new, AH.size_put] <;> omega)))⟩
theorem eqL_Glance (A : AH) (hro : ro ≤ A.size) (s t : Sl) (l k : List TGlance) (F G : List Nat) (hs : SlR A s l F) (ht : SlR A t k G) (hz : szL Mk.sz l < 4294967296) :
    ACalls Try.prog ro X 23 [s.v, t.v] A (fun r A' => r = .ret (.bool (decide (l = k))) ∧ Ext A A') := by
  have hl := szL_length Mk.sz l
  have hw : Dat.w TGlance = 3 := rfl
  refine ACalls.enterQ (rs := [.tmp 4]) Try.func23 rfl (by kernel_rfl) rfl ?_
  simp (maxSteps := 2000000) (disch := first | omega | (simp only [AH.size_new, AH.size_put] <;> omega) | fail) only [amR Try.prog ro X, amS, seval, reduceCtorEq, ty3, ty4, ty9, ty35, ty51, hs.len, ht.len]
  refine CondB.split (fun h => ?_) (fun h => ?_)
  · simp (maxSteps := 2000000) (disch := first | omega | (simp only [AH.size_new, AH.size_put] <;> omega) | fail) only [amR Try.prog ro X, amS, seval, reduceCtorEq, ty3, ty4, ty9, ty35, ty51]
    have : l ≠ k := fun e => by simp [e] at h
    simp [this, Ext.refl]
  · simp (maxSteps := 2000000) (disch := first | omega | (simp only [AH.size_new, AH.size_put] <;> omega) | fail) only [amR Try.prog ro X, amS, seval, reduceCtorEq, ty3, ty4, ty9, ty35, ty51]
    have hlk : l.length = k.length := by simp at h; omega
    refine Wp.loopC (fun n e A' => Ext A A' ∧ e 0 = s.v ∧ e 1 = t.v ∧ ∃ i : Nat, i ≤ l.length ∧ n = l.length - i ∧ e 5 = .int .i64 i ∧ l.take i = k.take i) (l.length - 0) ?_ ?_
    · simp (maxSteps := 2000000) (disch := first | omega | (simp only [AH.size_new, AH.size_put] <;> omega) | fail) only [amV, amH, amQ, amL, amN Try.prog, amS, seval, reduceCtorEq, ty3, ty4, ty9, ty35, ty51]
      exact ⟨Ext.refl A, 0, by simp, rfl, rfl, by simp⟩
    · rintro n e A' ⟨hE, h0, h1, i, hi, rfl, h5, heq⟩
      have v1 := hE.size
      simp (maxSteps := 2000000) (disch := first | omega | (simp only [AH.size_new, AH.size_put] <;> omega) | fail) only [amR Try.prog ro X, amS, seval, reduceCtorEq, ty3, ty4, ty9, ty35, ty51, h0, h1, h5, hs.len]
      refine CondB.split (fun h => ?_) (fun h => ?_)
      · simp (maxSteps := 2000000) (disch := first | omega | (simp only [AH.size_new, AH.size_put] <;> omega) | fail) only [amR Try.prog ro X, amS, seval, reduceCtorEq, ty3, ty4, ty9, ty35, ty51]
        have hil : i < l.length := by simp at h; omega
        obtain ⟨n1, b1, m1, i1, cs, Fi, c1, q1, _⟩ := (hs.ext hE).row hil
        obtain ⟨n2, b2, m2, i2, ds, Gi, c2, q2, _⟩ := (ht.ext hE).row (i := i) (by omega)
        rw [aRow_eq, hw] at c1 c2
        have hzi := szL_get Mk.sz l i hil
        refine Wp.runG [] (by kernel_rfl) (.inl (by kernel_rfl)) ?_
        simp (maxSteps := 2000000) (disch := first | omega | (simp only [AH.size_new, AH.size_put] <;> omega) | fail) only [amR Try.prog ro X, amS, seval, reduceCtorEq, ty3, ty4, ty9, ty35, ty51, h0, h1, h5, n1, n2, c1, c2]
        refine (eq_Glance _ (by omega) l[i] k[i] cs ds Fi Gi q1 q2 (by omega)).mono ?_
        rintro r A2 ⟨rfl, hE2⟩
        simp (maxSteps := 2000000) (disch := first | omega | (simp only [AH.size_new, AH.size_put] <;> omega) | fail) only [amR Try.prog ro X, amS, seval, reduceCtorEq, ty3, ty4, ty9, ty35, ty51]
        refine CondB.split (fun h => ?_) (fun h => ?_)
        · simp (maxSteps := 2000000) (disch := first | omega | (simp only [AH.size_new, AH.size_put] <;> omega) | fail) only [amR Try.prog ro X, amS, seval, reduceCtorEq, ty3, ty4, ty9, ty35, ty51]
          have : l ≠ k := by
            intro e
            subst e
            simp at h
          simp [this, hE.trans hE2]
        · simp (maxSteps := 2000000) (disch := first | omega | (simp only [AH.size_new, AH.size_put] <;> omega) | fail) only [amR Try.prog ro X, amS, seval, reduceCtorEq, ty3, ty4, ty9, ty35, ty51, h0, h1, h5]
          refine ⟨l.length - (i + 1), by omega, hE.trans hE2, i + 1, by omega, rfl, by simp, ?_⟩
          rw [List.take_succ_eq_append_getElem hil, List.take_succ_eq_append_getElem (by omega : i < k.length), heq]
          have : l[i] = k[i] := by simpa using h
          rw [this]
      · simp (maxSteps := 2000000) (disch := first | omega | (simp only [AH.size_new, AH.size_put] <;> omega) | fail) only [amR Try.prog ro X, amS, seval, reduceCtorEq, ty3, ty4, ty9, ty35, ty51]
        have : l = k := by
          have hi2 : i = l.length := by simp at h; omega
          subst hi2
          rw [List.take_length] at heq
          rw [hlk, List.take_length] at heq
          exact heq
        simp [this, hE]
theorem sz_Glance (A : AH) (hro : ro ≤ A.size) (x : TGlance) (cs : List Value) (F : List Nat) (h : Dat.rep A x cs F) (hn : Mk.bd x) (left : Int) (hz : 0 ≤ left ∧ left ≤ 2097152) :
    ACalls Try.prog ro X 26 [.agg cs.toArray, .int .i64 left] A (fun r A' => r = .ret (.int .i64 (szR left (Mk.sz x))) ∧ Ext A A') := by
  obtain ⟨rfl, rfl, z1, z2⟩ := rep_Glance.1 h
  have y1 := big_lt z1
  have y2 := big_lt z2
  have hsz : Mk.sz x = x.1.size + (0 + (x.2.2.size)) := rfl
  refine ACalls.enterQ (rs := [.tmp 4]) Try.func26 rfl (by kernel_rfl) rfl ?_
  simp (maxSteps := 2000000) (disch := first | omega | (simp only [AH.size_new, AH.size_put] <;> omega) | fail) only [amR Try.prog ro X, amS, seval, reduceCtorEq, ty3, ty4, ty9, ty62]
  refine CondB.split (fun h => ?_) (fun h => ?_)
  · have hc : left - (x.1.size : Nat) < 0 := by simpa using h
    simp (maxSteps := 2000000) (disch := first | omega | (simp only [AH.size_new, AH.size_put] <;> omega) | fail) only [amR Try.prog ro X, amS, seval, reduceCtorEq, ty3, ty4, ty9, ty62]
    exact ⟨(by rw [szR_neg (by omega : left - (Mk.sz x : Nat) < 0)]), by ((repeat' (first | exact Ext.refl _ | assumption | refine Ext.trans ?_ (Ext.new _ _) | refine Ext.put ?_ ?_ _ | refine Ext.trans ?_ (by assumption))) <;> (first | omega | (simp only [AH.size_new, AH.size_put] <;> omega)))⟩
  have c1 : ¬ (left - (x.1.size : Nat) < 0) := by simpa using h
  simp (maxSteps := 2000000) (disch := first | omega | (simp only [AH.size_new, AH.size_put] <;> omega) | fail) only [amR Try.prog ro X, amS, seval, reduceCtorEq, ty3, ty4, ty9, ty62]
  refine CondB.split (fun h => ?_) (fun h => ?_)
  · have hc : left - (x.1.size : Nat) - (x.2.2.size : Nat) < 0 := by simpa using h
    simp (maxSteps := 2000000) (disch := first | omega | (simp only [AH.size_new, AH.size_put] <;> omega) | fail) only [amR Try.prog ro X, amS, seval, reduceCtorEq, ty3, ty4, ty9, ty62]
    exact ⟨(by rw [szR_neg (by omega : left - (Mk.sz x : Nat) < 0)]), by ((repeat' (first | exact Ext.refl _ | assumption | refine Ext.trans ?_ (Ext.new _ _) | refine Ext.put ?_ ?_ _ | refine Ext.trans ?_ (by assumption))) <;> (first | omega | (simp only [AH.size_new, AH.size_put] <;> omega)))⟩
  have c2 : ¬ (left - (x.1.size : Nat) - (x.2.2.size : Nat) < 0) := by simpa using h
  simp (maxSteps := 2000000) (disch := first | omega | (simp only [AH.size_new, AH.size_put] <;> omega) | fail) only [amR Try.prog ro X, amS, seval, reduceCtorEq, ty3, ty4, ty9, ty62]
  exact ⟨by rw [szR_pos (by omega : ¬ left - (Mk.sz x : Nat) < 0)]; congr 2 <;> omega, by ((repeat' (first | exact Ext.refl _ | assumption | refine Ext.trans ?_ (Ext.new _ _) | refine Ext.put ?_ ?_ _ | refine Ext.trans ?_ (by assumption))) <;> (first | omega | (simp only [AH.size_new, AH.size_put] <;> omega)))⟩
theorem szL_Glance (A : AH) (hro : ro ≤ A.size) (s : Sl) (l : List TGlance) (F : List Nat) (hs : SlR A s l F) (hn : Mk.bd l) (left : Int) (hz : 0 ≤ left ∧ left ≤ 2097152) :
    ACalls Try.prog ro X 13 [s.v, .int .i64 left] A (fun r A' => r = .ret (.int .i64 (szR left (szL Mk.sz l))) ∧ Ext A A') := by
  have hl := hn.1
  have hw : Dat.w TGlance = 3 := rfl
  refine ACalls.enterQ (rs := [.tmp 4]) Try.func13 rfl (by kernel_rfl) rfl ?_
  simp (maxSteps := 2000000) (disch := first | omega | (simp only [AH.size_new, AH.size_put] <;> omega) | fail) only [amR Try.prog ro X, amS, seval, reduceCtorEq, ty3, ty4, ty9, ty25, ty62, hs.len]
  refine CondB.split (fun h => ?_) (fun h => ?_)
  · simp (maxSteps := 2000000) (disch := first | omega | (simp only [AH.size_new, AH.size_put] <;> omega) | fail) only [amR Try.prog ro X, amS, seval, reduceCtorEq, ty3, ty4, ty9, ty25, ty62]
    have h2 : left - l.length < 0 := by simpa using h
    have := szL_length Mk.sz l
    exact ⟨by rw [szR_neg (by omega)], Ext.refl A⟩
  · simp (maxSteps := 2000000) (disch := first | omega | (simp only [AH.size_new, AH.size_put] <;> omega) | fail) only [amR Try.prog ro X, amS, seval, reduceCtorEq, ty3, ty4, ty9, ty25, ty62]
    refine Wp.loopC (fun n e A' => Ext A A' ∧ e 0 = s.v ∧ ∃ i : Nat, i ≤ l.length ∧ n = l.length - i ∧ e 5 = .int .i64 i ∧ e 1 = .int .i64 (left - szL Mk.sz (l.take i) + i - l.length) ∧ 0 ≤ left - szL Mk.sz (l.take i) + i - l.length) (l.length - 0) ?_ ?_
    · simp (maxSteps := 2000000) (disch := first | omega | (simp only [AH.size_new, AH.size_put] <;> omega) | fail) only [amV, amH, amQ, amL, amN Try.prog, amS, seval, reduceCtorEq, ty3, ty4, ty9, ty25, ty62]
      refine ⟨Ext.refl A, 0, by omega, rfl, rfl, ?_⟩
      have : 0 ≤ left - l.length := by simpa using h
      simp only [List.take_zero, szL_nil]
      exact ⟨by congr 1 <;> omega, by omega⟩
    · rintro n e A' ⟨hE, h0, i, hi, rfl, h5, h1, hle⟩
      have v1 := hE.size
      simp (maxSteps := 2000000) (disch := first | omega | (simp only [AH.size_new, AH.size_put] <;> omega) | fail) only [amR Try.prog ro X, amS, seval, reduceCtorEq, ty3, ty4, ty9, ty25, ty62, h0, h5, hs.len]
      refine CondB.split (fun h => ?_) (fun h => ?_)
      · have hil : i < l.length := by simp at h; omega
        obtain ⟨n1, b1, m1, i1, cs, Fi, c1, q1, _⟩ := (hs.ext hE).row hil
        rw [aRow_eq, hw] at c1
        have hst := szL_take_succ Mk.sz l i hil
        have hge := szL_take_le Mk.sz l (i + 1)
        have hge0 := szL_take_le Mk.sz l i
        have hti := szL_length Mk.sz (l.take i)
        rw [List.length_take, Nat.min_eq_left hi] at hti
        simp (maxSteps := 2000000) (disch := first | omega | (simp only [AH.size_new, AH.size_put] <;> omega) | fail) only [amR Try.prog ro X, amS, seval, reduceCtorEq, ty3, ty4, ty9, ty25, ty62, h0, h1, h5, n1, c1]
        refine (sz_Glance _ (by omega) l[i] cs Fi q1 (hn.2 _ (List.getElem_mem hil)) _ ⟨hle, by omega⟩).mono ?_
        rintro r A2 ⟨rfl, hE2⟩
        by_cases hc : left - szL Mk.sz (l.take i) + i - l.length - (Mk.sz l[i] : Nat) < 0
        · rw [szR_neg hc]
          simp (maxSteps := 2000000) (disch := first | omega | (simp only [AH.size_new, AH.size_put] <;> omega) | fail) only [amR Try.prog ro X, amS, seval, reduceCtorEq, ty3, ty4, ty9, ty25, ty62]
          exact ⟨by rw [szR_neg (by omega)], hE.trans hE2⟩
        · rw [szR_pos hc]
          simp (maxSteps := 2000000) (disch := first | omega | (simp only [AH.size_new, AH.size_put] <;> omega) | fail) only [amR Try.prog ro X, amS, seval, reduceCtorEq, ty3, ty4, ty9, ty25, ty62, h0, h5, hc]
          exact ⟨l.length - (i + 1), by omega, hE.trans hE2, i + 1, by omega, rfl, rfl, by congr 1 <;> omega, by omega⟩
      · have hil : i = l.length := by simp at h; omega
        subst hil
        rw [List.take_length] at h1 hle
        simp (maxSteps := 2000000) (disch := first | omega | (simp only [AH.size_new, AH.size_put] <;> omega) | fail) only [amR Try.prog ro X, amS, seval, reduceCtorEq, ty3, ty4, ty9, ty25, ty62, h1]
        exact ⟨by rw [szR_pos (by omega)]; congr 2; omega, hE⟩
theorem to_Record (A : AH) (hro : ro ≤ A.size) (x : TRecord) (cs : List Value) (F : List Nat) (h : Dat.rep A x cs F) (hz : Mk.sz x < 4294967296) :
    ACalls Try.prog ro X 7 [.agg cs.toArray] A (fun r A' => ∃ cs' F', r = .ret (.agg cs'.toArray) ∧ Dat.rep A' x cs' F' ∧ Fresh A F' A' ∧ Ext A A') := by
  obtain ⟨s1, s2, G1, G2, rfl, rfl, h1, h2, z1⟩ := rep_Record.1 h
  have y1 := big_lt z1
  have hsz : Mk.sz x = (szL Mk.sz x.1) + (szL Mk.sz x.2.1 + (x.2.2.size)) := rfl
  refine ACalls.enterQ (rs := [.cell 2 37]) Try.func7 rfl (by kernel_rfl) rfl ?_
  simp (maxSteps := 2000000) (disch := first | omega | (simp only [AH.size_new, AH.size_put] <;> omega) | fail) only [amR Try.prog ro X, amS, seval, reduceCtorEq, ty9, ty22, ty24, ty25, ty27, ty32, ty34, ty35, ty37, ty51, ty62]
  refine (to_Program _ (by first | omega | (simp only [AH.size_new, AH.size_put] <;> omega)) x.1 _ _ (rep_Program.2 ⟨s1, _, rfl, rfl, h1.ext (by ((repeat' (first | exact Ext.refl _ | assumption | refine Ext.trans ?_ (Ext.new _ _) | refine Ext.put ?_ ?_ _ | refine Ext.trans ?_ (by assumption))) <;> (first | omega | (simp only [AH.size_new, AH.size_put] <;> omega))))⟩) (by show szL Mk.sz _ < _; omega)).mono ?_
  rintro r B1 ⟨c1, H1, rfl, q1', f1, hE1⟩
  obtain ⟨t1, _, rfl, rfl, q1⟩ := rep_Program.1 q1'
  have v1 := hE1.size
  try simp only [AH.size_new, AH.size_put] at v1
  simp (maxSteps := 2000000) (disch := first | omega | (simp only [AH.size_new, AH.size_put] <;> omega) | fail) only [amR Try.prog ro X, amS, seval, reduceCtorEq, ty9, ty22, ty24, ty25, ty27, ty32, ty34, ty35, ty37, ty51, ty62, hE1.get]
  refine (toL_Glance _ (by first | omega | (simp only [AH.size_new, AH.size_put] <;> omega)) s2 _ _ (h2.ext (by ((repeat' (first | exact Ext.refl _ | assumption | refine Ext.trans ?_ (Ext.new _ _) | refine Ext.put ?_ ?_ _ | refine Ext.trans ?_ (by assumption))) <;> (first | omega | (simp only [AH.size_new, AH.size_put] <;> omega))))) (by omega)).mono ?_
  rintro r B2 ⟨t2, H2, rfl, q2, f2, hE2⟩
  have v2 := hE2.size
  try simp only [AH.size_new, AH.size_put] at v2
  simp (maxSteps := 2000000) (disch := first | omega | (simp only [AH.size_new, AH.size_put] <;> omega) | fail) only [amR Try.prog ro X, amS, seval, reduceCtorEq, ty9, ty22, ty24, ty25, ty27, ty32, ty34, ty35, ty37, ty51, ty62, hE1.get, hE2.get]
  exact ⟨_, _, rfl, rep_Record.2 ⟨t1, t2, _, _, rfl, rfl, q1.low f1.lo (by ((repeat' (first | exact Low.refl _ _ | assumption | refine Low.new ?_ _ | refine Low.put ?_ ?_ _ | refine Low.trans ?_ (Ext.low (by assumption) _))) <;> (first | omega | (simp only [AH.size_new, AH.size_put] <;> omega)))), q2.low f2.lo (by ((repeat' (first | exact Low.refl _ _ | assumption | refine Low.new ?_ _ | refine Low.put ?_ ?_ _ | refine Low.trans ?_ (Ext.low (by assumption) _))) <;> (first | omega | (simp only [AH.size_new, AH.size_put] <;> omega)))), z1⟩, (f1.mono (by first | omega | (simp only [AH.size_new, AH.size_put] <;> omega)) (Nat.le_refl _)).append (f2.mono (by first | omega | (simp only [AH.size_new, AH.size_put] <;> omega)) (by first | omega | (simp only [AH.size_new, AH.size_put] <;> omega))) (by first | omega | (simp only [AH.size_new, AH.size_put] <;> omega)) (by first | omega | (simp only [AH.size_new, AH.size_put] <;> omega)), by ((repeat' (first | exact Ext.refl _ | assumption | refine Ext.trans ?_ (Ext.new _ _) | refine Ext.put ?_ ?_ _ | refine Ext.trans ?_ (by assumption))) <;> (first | omega | (simp only [AH.size_new, AH.size_put] <;> omega)))⟩
theorem eq_Record (A : AH) (hro : ro ≤ A.size) (x y : TRecord) (cs ds : List Value) (F F' : List Nat) (h : Dat.rep A x cs F) (h' : Dat.rep A y ds F') (hz : Mk.sz x < 4294967296) :
    ACalls Try.prog ro X 10 [.agg cs.toArray, .agg ds.toArray] A (fun r A' => r = .ret (.bool (decide (x = y))) ∧ Ext A A') := by
  obtain ⟨s1, s2, G1, G2, rfl, rfl, h1, h2, z1⟩ := rep_Record.1 h
  obtain ⟨s1', s2', G1', G2', rfl, rfl, h1', h2', z1'⟩ := rep_Record.1 h'
  have hsz : Mk.sz x = (szL Mk.sz x.1) + (szL Mk.sz x.2.1 + (x.2.2.size)) := rfl
  refine ACalls.enterQ (rs := [.tmp 4]) Try.func10 rfl (by kernel_rfl) rfl ?_
  simp (maxSteps := 2000000) (disch := first | omega | (simp only [AH.size_new, AH.size_put] <;> omega) | fail) only [amR Try.prog ro X, amS, seval, reduceCtorEq, ty4, ty9, ty32, ty34, ty35, ty37, ty51]
  refine (eq_Program _ (by first | omega | (simp only [AH.size_new, AH.size_put] <;> omega)) x.1 y.1 _ _ _ _ (rep_Program.2 ⟨s1, _, rfl, rfl, h1.ext (by ((repeat' (first | exact Ext.refl _ | assumption | refine Ext.trans ?_ (Ext.new _ _) | refine Ext.put ?_ ?_ _ | refine Ext.trans ?_ (by assumption))) <;> (first | omega | (simp only [AH.size_new, AH.size_put] <;> omega))))⟩) (rep_Program.2 ⟨s1', _, rfl, rfl, h1'.ext (by ((repeat' (first | exact Ext.refl _ | assumption | refine Ext.trans ?_ (Ext.new _ _) | refine Ext.put ?_ ?_ _ | refine Ext.trans ?_ (by assumption))) <;> (first | omega | (simp only [AH.size_new, AH.size_put] <;> omega))))⟩) (by show szL Mk.sz x.1 < _; omega)).mono ?_
  rintro r B1 ⟨rfl, hE1⟩
  have v1 := hE1.size
  try simp only [AH.size_new, AH.size_put] at v1
  simp (maxSteps := 2000000) (disch := first | omega | (simp only [AH.size_new, AH.size_put] <;> omega) | fail) only [amR Try.prog ro X, amS, seval, reduceCtorEq, ty4, ty9, ty32, ty34, ty35, ty37, ty51, hE1.get]
  refine CondB.split (fun h => ?_) (fun h => ?_)
  · have hc : ¬ x.1 = y.1 := by simpa using h
    simp (maxSteps := 2000000) (disch := first | omega | (simp only [AH.size_new, AH.size_put] <;> omega) | fail) only [amR Try.prog ro X, amS, seval, reduceCtorEq, ty4, ty9, ty32, ty34, ty35, ty37, ty51, hE1.get]
    exact ⟨by rw [decide_eq_false (fun e => hc (by rw [e]))], by ((repeat' (first | exact Ext.refl _ | assumption | refine Ext.trans ?_ (Ext.new _ _) | refine Ext.put ?_ ?_ _ | refine Ext.trans ?_ (by assumption))) <;> (first | omega | (simp only [AH.size_new, AH.size_put] <;> omega)))⟩
  have c1 : x.1 = y.1 := by simpa using h
  simp (maxSteps := 2000000) (disch := first | omega | (simp only [AH.size_new, AH.size_put] <;> omega) | fail) only [amR Try.prog ro X, amS, seval, reduceCtorEq, ty4, ty9, ty32, ty34, ty35, ty37, ty51, hE1.get]
  refine (eqL_Glance _ (by first | omega | (simp only [AH.size_new, AH.size_put] <;> omega)) s2 s2' _ _ _ _ (h2.ext (by ((repeat' (first | exact Ext.refl _ | assumption | refine Ext.trans ?_ (Ext.new _ _) | refine Ext.put ?_ ?_ _ | refine Ext.trans ?_ (by assumption))) <;> (first | omega | (simp only [AH.size_new, AH.size_put] <;> omega))))) (h2'.ext (by ((repeat' (first | exact Ext.refl _ | assumption | refine Ext.trans ?_ (Ext.new _ _) | refine Ext.put ?_ ?_ _ | refine Ext.trans ?_ (by assumption))) <;> (first | omega | (simp only [AH.size_new, AH.size_put] <;> omega))))) (by omega)).mono ?_
  rintro r B2 ⟨rfl, hE2⟩
  have v2 := hE2.size
  try simp only [AH.size_new, AH.size_put] at v2
  simp (maxSteps := 2000000) (disch := first | omega | (simp only [AH.size_new, AH.size_put] <;> omega) | fail) only [amR Try.prog ro X, amS, seval, reduceCtorEq, ty4, ty9, ty32, ty34, ty35, ty37, ty51, hE1.get, hE2.get]
  refine CondB.split (fun h => ?_) (fun h => ?_)
  · have hc : ¬ x.2.1 = y.2.1 := by simpa using h
    simp (maxSteps := 2000000) (disch := first | omega | (simp only [AH.size_new, AH.size_put] <;> omega) | fail) only [amR Try.prog ro X, amS, seval, reduceCtorEq, ty4, ty9, ty32, ty34, ty35, ty37, ty51, hE1.get, hE2.get]
    exact ⟨by rw [decide_eq_false (fun e => hc (by rw [e]))], by ((repeat' (first | exact Ext.refl _ | assumption | refine Ext.trans ?_ (Ext.new _ _) | refine Ext.put ?_ ?_ _ | refine Ext.trans ?_ (by assumption))) <;> (first | omega | (simp only [AH.size_new, AH.size_put] <;> omega)))⟩
  have c2 : x.2.1 = y.2.1 := by simpa using h
  simp (maxSteps := 2000000) (disch := first | omega | (simp only [AH.size_new, AH.size_put] <;> omega) | fail) only [amR Try.prog ro X, amS, seval, reduceCtorEq, ty4, ty9, ty32, ty34, ty35, ty37, ty51, hE1.get, hE2.get]
  refine CondB.split (fun h => ?_) (fun h => ?_)
  · have hc : ¬ x.2.2 = y.2.2 := by simpa using h
    simp (maxSteps := 2000000) (disch := first | omega | (simp only [AH.size_new, AH.size_put] <;> omega) | fail) only [amR Try.prog ro X, amS, seval, reduceCtorEq, ty4, ty9, ty32, ty34, ty35, ty37, ty51, hE1.get, hE2.get]
    exact ⟨by rw [decide_eq_false (fun e => hc (by rw [e]))], by ((repeat' (first | exact Ext.refl _ | assumption | refine Ext.trans ?_ (Ext.new _ _) | refine Ext.put ?_ ?_ _ | refine Ext.trans ?_ (by assumption))) <;> (first | omega | (simp only [AH.size_new, AH.size_put] <;> omega)))⟩
  have c3 : x.2.2 = y.2.2 := by simpa using h
  simp (maxSteps := 2000000) (disch := first | omega | (simp only [AH.size_new, AH.size_put] <;> omega) | fail) only [amR Try.prog ro X, amS, seval, reduceCtorEq, ty4, ty9, ty32, ty34, ty35, ty37, ty51, hE1.get, hE2.get]
  exact ⟨by rw [decide_eq_true (Prod.ext c1 (Prod.ext c2 (c3)))], by ((repeat' (first | exact Ext.refl _ | assumption | refine Ext.trans ?_ (Ext.new _ _) | refine Ext.put ?_ ?_ _ | refine Ext.trans ?_ (by assumption))) <;> (first | omega | (simp only [AH.size_new, AH.size_put] <;> omega)))⟩
theorem sz_Record (A : AH) (hro : ro ≤ A.size) (x : TRecord) (cs : List Value) (F : List Nat) (h : Dat.rep A x cs F) (hn : Mk.bd x) (left : Int) (hz : 0 ≤ left ∧ left ≤ 2097152) :
    ACalls Try.prog ro X 4 [.agg cs.toArray, .int .i64 left] A (fun r A' => r = .ret (.int .i64 (szR left (Mk.sz x))) ∧ Ext A A') := by
  obtain ⟨s1, s2, G1, G2, rfl, rfl, h1, h2, z1⟩ := rep_Record.1 h
  have y1 := big_lt z1
  have hsz : Mk.sz x = (szL Mk.sz x.1) + (szL Mk.sz x.2.1 + (x.2.2.size)) := rfl
  refine ACalls.enterQ (rs := [.tmp 4]) Try.func4 rfl (by kernel_rfl) rfl ?_
  simp (maxSteps := 2000000) (disch := first | omega | (simp only [AH.size_new, AH.size_put] <;> omega) | fail) only [amR Try.prog ro X, amS, seval, reduceCtorEq, ty3, ty9, ty22, ty24, ty25, ty27, ty62]
  refine (sz_Program _ (by first | omega | (simp only [AH.size_new, AH.size_put] <;> omega)) x.1 _ _ (rep_Program.2 ⟨s1, _, rfl, rfl, h1.ext (by ((repeat' (first | exact Ext.refl _ | assumption | refine Ext.trans ?_ (Ext.new _ _) | refine Ext.put ?_ ?_ _ | refine Ext.trans ?_ (by assumption))) <;> (first | omega | (simp only [AH.size_new, AH.size_put] <;> omega))))⟩) hn.1 (left) (by omega)).mono ?_
  rintro r B1 ⟨rfl, hE1⟩
  have v1 := hE1.size
  try simp only [AH.size_new, AH.size_put] at v1
  have e1 : (Mk.sz x.1 : Nat) = szL Mk.sz x.1 := rfl
  rw [e1]
  by_cases c1 : left - (szL Mk.sz x.1 : Nat) < 0
  · rw [szR_neg c1]
    simp (maxSteps := 2000000) (disch := first | omega | (simp only [AH.size_new, AH.size_put] <;> omega) | fail) only [amR Try.prog ro X, amS, seval, reduceCtorEq, ty3, ty9, ty22, ty24, ty25, ty27, ty62, hE1.get]
    exact ⟨(by rw [szR_neg (by omega : left - (Mk.sz x : Nat) < 0)]), by ((repeat' (first | exact Ext.refl _ | assumption | refine Ext.trans ?_ (Ext.new _ _) | refine Ext.put ?_ ?_ _ | refine Ext.trans ?_ (by assumption))) <;> (first | omega | (simp only [AH.size_new, AH.size_put] <;> omega)))⟩
  rw [szR_pos c1]
  simp (maxSteps := 2000000) (disch := first | omega | (simp only [AH.size_new, AH.size_put] <;> omega) | fail) only [amR Try.prog ro X, amS, seval, reduceCtorEq, ty3, ty9, ty22, ty24, ty25, ty27, ty62, hE1.get, c1]
  refine (szL_Glance _ (by first | omega | (simp only [AH.size_new, AH.size_put] <;> omega)) s2 _ _ (h2.ext (by ((repeat' (first | exact Ext.refl _ | assumption | refine Ext.trans ?_ (Ext.new _ _) | refine Ext.put ?_ ?_ _ | refine Ext.trans ?_ (by assumption))) <;> (first | omega | (simp only [AH.size_new, AH.size_put] <;> omega))))) hn.2.1 (left - (szL Mk.sz x.1 : Nat)) (by omega)).mono ?_
  rintro r B2 ⟨rfl, hE2⟩
  have v2 := hE2.size
  try simp only [AH.size_new, AH.size_put] at v2
  by_cases c2 : left - (szL Mk.sz x.1 : Nat) - (szL Mk.sz x.2.1 : Nat) < 0
  · rw [szR_neg c2]
    simp (maxSteps := 2000000) (disch := first | omega | (simp only [AH.size_new, AH.size_put] <;> omega) | fail) only [amR Try.prog ro X, amS, seval, reduceCtorEq, ty3, ty9, ty22, ty24, ty25, ty27, ty62, hE1.get, hE2.get]
    exact ⟨(by rw [szR_neg (by omega : left - (Mk.sz x : Nat) < 0)]), by ((repeat' (first | exact Ext.refl _ | assumption | refine Ext.trans ?_ (Ext.new _ _) | refine Ext.put ?_ ?_ _ | refine Ext.trans ?_ (by assumption))) <;> (first | omega | (simp only [AH.size_new, AH.size_put] <;> omega)))⟩
  rw [szR_pos c2]
  simp (maxSteps := 2000000) (disch := first | omega | (simp only [AH.size_new, AH.size_put] <;> omega) | fail) only [amR Try.prog ro X, amS, seval, reduceCtorEq, ty3, ty9, ty22, ty24, ty25, ty27, ty62, hE1.get, hE2.get, c2]
  refine CondB.split (fun h => ?_) (fun h => ?_)
  · have hc : left - (szL Mk.sz x.1 : Nat) - (szL Mk.sz x.2.1 : Nat) - (x.2.2.size : Nat) < 0 := by simpa using h
    simp (maxSteps := 2000000) (disch := first | omega | (simp only [AH.size_new, AH.size_put] <;> omega) | fail) only [amR Try.prog ro X, amS, seval, reduceCtorEq, ty3, ty9, ty22, ty24, ty25, ty27, ty62, hE1.get, hE2.get]
    exact ⟨(by rw [szR_neg (by omega : left - (Mk.sz x : Nat) < 0)]), by ((repeat' (first | exact Ext.refl _ | assumption | refine Ext.trans ?_ (Ext.new _ _) | refine Ext.put ?_ ?_ _ | refine Ext.trans ?_ (by assumption))) <;> (first | omega | (simp only [AH.size_new, AH.size_put] <;> omega)))⟩
  have c3 : ¬ (left - (szL Mk.sz x.1 : Nat) - (szL Mk.sz x.2.1 : Nat) - (x.2.2.size : Nat) < 0) := by simpa using h
  simp (maxSteps := 2000000) (disch := first | omega | (simp only [AH.size_new, AH.size_put] <;> omega) | fail) only [amR Try.prog ro X, amS, seval, reduceCtorEq, ty3, ty9, ty22, ty24, ty25, ty27, ty62, hE1.get, hE2.get]
  exact ⟨by rw [szR_pos (by omega : ¬ left - (Mk.sz x : Nat) < 0)]; congr 2 <;> omega, by ((repeat' (first | exact Ext.refl _ | assumption | refine Ext.trans ?_ (Ext.new _ _) | refine Ext.put ?_ ?_ _ | refine Ext.trans ?_ (by assumption))) <;> (first | omega | (simp only [AH.size_new, AH.size_put] <;> omega)))⟩
end Go.Proofs.Ytcdnlghlbljopaa.Amu.Law
