/- Equal programs, equal records. -/
import Derived.Test.YtcdnlghlbljopaaDoorAmSame
import Derived.Test.YtcdnlghlbljopaaDoorAmuStore
namespace Go.Proofs.YtcdnlghlbljopaaDoor.Amu.Same
open Go Go.AM Go.Proofs
set_option linter.unusedVariables false
set_option linter.unusedSimpArgs false
theorem ty3 : tKind Tryd.prog 3 = some (.int .i64) ∧ tSize Tryd.prog 3 = some 1 ∧ tAgg Tryd.prog 3 = some false ∧ tZero Tryd.prog 3 = some (.int .i64 0) := ⟨by kernel_rfl, by kernel_rfl, by kernel_rfl, by kernel_rfl⟩
theorem ty4 : tKind Tryd.prog 4 = some (.bool) ∧ tSize Tryd.prog 4 = some 1 ∧ tAgg Tryd.prog 4 = some false ∧ tZero Tryd.prog 4 = some (.bool false) := ⟨by kernel_rfl, by kernel_rfl, by kernel_rfl, by kernel_rfl⟩
theorem ty9 : tKind Tryd.prog 9 = some (.str) ∧ tSize Tryd.prog 9 = some 1 ∧ tAgg Tryd.prog 9 = some false ∧ tZero Tryd.prog 9 = some (.string ByteArray.empty) := ⟨by kernel_rfl, by kernel_rfl, by kernel_rfl, by kernel_rfl⟩
theorem ty27 : tKind Tryd.prog 27 = some (.slice) ∧ tSize Tryd.prog 27 = some 1 ∧ tAgg Tryd.prog 27 = some false ∧ tZero Tryd.prog 27 = some (.slice none 0 0) ∧ tElem Tryd.prog 27 = some 109 ∧ tElemSize Tryd.prog 27 = some 3 ∧ tBytes Tryd.prog 27 = false := ⟨by kernel_rfl, by kernel_rfl, by kernel_rfl, by kernel_rfl, by kernel_rfl, by kernel_rfl, by kernel_rfl⟩
theorem ty29 : tKind Tryd.prog 29 = some (.struct) ∧ tSize Tryd.prog 29 = some 1 ∧ tAgg Tryd.prog 29 = some true ∧ tZero Tryd.prog 29 = some (.agg #[.slice none 0 0]) ∧ tField Tryd.prog 29 0 = some (0, 27) ∧ tPlaces Tryd.prog 29 = some [(0, 1)] := ⟨by kernel_rfl, by kernel_rfl, by kernel_rfl, by kernel_rfl, by kernel_rfl, by kernel_rfl⟩
theorem ty67 : tKind Tryd.prog 67 = some (.slice) ∧ tSize Tryd.prog 67 = some 1 ∧ tAgg Tryd.prog 67 = some false ∧ tZero Tryd.prog 67 = some (.slice none 0 0) ∧ tElem Tryd.prog 67 = some 153 ∧ tElemSize Tryd.prog 67 = some 3 ∧ tBytes Tryd.prog 67 = false := ⟨by kernel_rfl, by kernel_rfl, by kernel_rfl, by kernel_rfl, by kernel_rfl, by kernel_rfl, by kernel_rfl⟩
theorem ty69 : tKind Tryd.prog 69 = some (.struct) ∧ tSize Tryd.prog 69 = some 3 ∧ tAgg Tryd.prog 69 = some true ∧ tZero Tryd.prog 69 = some (.agg #[.slice none 0 0, .slice none 0 0, .string ByteArray.empty]) ∧ tField Tryd.prog 69 0 = some (0, 29) ∧ tField Tryd.prog 69 1 = some (1, 67) ∧ tField Tryd.prog 69 2 = some (2, 9) ∧ tPlaces Tryd.prog 69 = some [(0, 1), (1, 1), (2, 1)] := ⟨by kernel_rfl, by kernel_rfl, by kernel_rfl, by kernel_rfl, by kernel_rfl, by kernel_rfl, by kernel_rfl, by kernel_rfl⟩
theorem ty109 : tKind Tryd.prog 109 = some (.struct) ∧ tSize Tryd.prog 109 = some 3 ∧ tAgg Tryd.prog 109 = some true ∧ tZero Tryd.prog 109 = some (.agg #[.int .i64 0, .string ByteArray.empty, .int .i64 0]) ∧ tField Tryd.prog 109 0 = some (0, 3) ∧ tField Tryd.prog 109 1 = some (1, 9) ∧ tField Tryd.prog 109 2 = some (2, 3) ∧ tPlaces Tryd.prog 109 = some [(0, 1), (1, 1), (2, 1)] := ⟨by kernel_rfl, by kernel_rfl, by kernel_rfl, by kernel_rfl, by kernel_rfl, by kernel_rfl, by kernel_rfl, by kernel_rfl⟩
theorem ty153 : tKind Tryd.prog 153 = some (.struct) ∧ tSize Tryd.prog 153 = some 3 ∧ tAgg Tryd.prog 153 = some true ∧ tZero Tryd.prog 153 = some (.agg #[.string ByteArray.empty, .bool false, .string ByteArray.empty]) ∧ tField Tryd.prog 153 0 = some (0, 9) ∧ tField Tryd.prog 153 1 = some (1, 4) ∧ tField Tryd.prog 153 2 = some (2, 9) ∧ tPlaces Tryd.prog 153 = some [(0, 1), (1, 1), (2, 1)] := ⟨by kernel_rfl, by kernel_rfl, by kernel_rfl, by kernel_rfl, by kernel_rfl, by kernel_rfl, by kernel_rfl, by kernel_rfl⟩

variable {ro : Nat} {X : FuncId → List Value → AH → ARes → AH → Prop}
set_option maxRecDepth 10000
theorem impl.sameProgram_a (A : AH) (hro : ro ≤ A.size) (s1 s2 : Sl) (p q : List TIns) (F1 F2 : List Nat) (h1 : SlR A s1 p F1) (h2 : SlR A s2 q F2) (hl : p.length < 1152921504606846976) :
    ACalls Tryd.prog ro X 173 [.agg #[s1.v], .agg #[s2.v]] A (fun r A' => r = .ret (.bool (decide (p = q))) ∧ Ext A A') := by
  refine ACalls.enterQ (rs := [.tmp 4]) Tryd.func173 rfl (by kernel_rfl) rfl ?_
  have hl1 := h1.len
  have hl2 := h2.len
  by_cases c : p.length = q.length
  · have c' : (p.length : Int) = q.length := by omega
    simp (maxSteps := 2000000) (disch := first | omega | (simp only [AH.size_new, AH.size_put] <;> omega) | fail) only [amR Tryd.prog ro X, amS, seval, reduceCtorEq, ty3, ty9, ty27, ty29, ty109, hl1, hl2, c']
    generalize hA0 : (A.new _).new _ = A0
    have hE0 : Ext A A0 := by rw [← hA0]; exact (by ((repeat' (first | exact Ext.refl _ | assumption | refine Ext.trans ?_ (Ext.new _ _) | refine Ext.put ?_ ?_ _ | refine Ext.trans ?_ (by assumption))) <;> (first | omega | (simp only [AH.size_new, AH.size_put] <;> omega))))
    have hz0 : A0.size = A.size + 2 := by rw [← hA0]; rfl
    have g2 : A0.get A.size = .cells [s1.v] 1 := by rw [← hA0, AH.get_new_other (by simp only [AH.size_new]; omega)]; exact AH.get_new_self _ _
    have g3 : A0.get (A.size + 1) = .cells [s2.v] 1 := by rw [← hA0]; exact AH.get_new_self _ _
    refine Wp.loopC (fun n e A' => A' = A0 ∧ e 2 = .pointer (some ⟨A.size, 0, none⟩) ∧ e 3 = .pointer (some ⟨A.size + 1, 0, none⟩) ∧ e 15 = .int .i64 p.length ∧ ∃ i : Nat, i ≤ p.length ∧ n = p.length - i ∧ e 16 = .int .i64 i ∧ p.take i = q.take i) (p.length - 0) ?_ ?_
    · simp (maxSteps := 2000000) (disch := first | omega | (simp only [AH.size_new, AH.size_put] <;> omega) | fail) only [amV, amH, amQ, amL, amN Tryd.prog, amS, seval, reduceCtorEq, ty3, ty9, ty27, ty29, ty109, hl1, hl2, c']
      exact ⟨0, by omega, rfl, rfl, by simp⟩
    · rintro n e A' ⟨rfl, e2, e3, e15, i, hi, rfl, eI, hall⟩
      simp (maxSteps := 2000000) (disch := first | omega | (simp only [AH.size_new, AH.size_put] <;> omega) | fail) only [amR Tryd.prog ro X, amS, seval, reduceCtorEq, ty3, ty9, ty27, ty29, ty109, e2, e3, e15, eI, g2, hl1]
      refine CondB.split (fun h => ?_) (fun h => ?_)
      · have hil : i < p.length := by first | simpa using h | (simp at h; omega)
        have hiq : i < q.length := by omega
        obtain ⟨n1, b1, i1, r1, _⟩ := (h1.ext hE0).ins hil
        obtain ⟨n2, b2, i2, r2, _⟩ := (h2.ext hE0).ins hiq
        have heq := ne_isi (P := Tryd.prog) (Tryd.underlying109) (by decide) (by decide) (by decide) (by simp only [ty3]) (by simp only [ty9]) (by simp only [ty3]) (by kernel_rfl) p[i] q[i]
        simp (maxSteps := 2000000) (disch := first | omega | (simp only [AH.size_new, AH.size_put] <;> omega) | fail) only [amR Tryd.prog ro X, amS, seval, reduceCtorEq, ty3, ty9, ty27, ty29, ty109, e2, e3, e15, eI, g2, g3]
        refine WpH (A'.size) [] (by kernel_rfl) (.inl (by kernel_rfl)) ?_
        by_cases k : p[i] = q[i]
        · rw [decide_eq_true k] at heq
          simp (maxSteps := 2000000) (disch := first | omega | (simp only [AH.size_new, AH.size_put] <;> omega) | fail) only [amX2 Tryd.prog ro X, amX Tryd.prog ro X, amR Tryd.prog ro X, amS, seval, reduceCtorEq, ty3, ty9, ty27, ty29, ty109, e2, e3, e15, eI, g2, g3, n1, n2, r1, r2, heq]
          exact ⟨p.length - (i + 1), by omega, i + 1, by omega, rfl, by simp, same_step hall hil hiq k⟩
        · rw [decide_eq_false k] at heq
          simp (maxSteps := 2000000) (disch := first | omega | (simp only [AH.size_new, AH.size_put] <;> omega) | fail) only [amX2 Tryd.prog ro X, amX Tryd.prog ro X, amR Tryd.prog ro X, amS, seval, reduceCtorEq, ty3, ty9, ty27, ty29, ty109, e2, e3, e15, eI, g2, g3, n1, n2, r1, r2, heq]
          exact ⟨by rw [decide_eq_false (same_ne hil hiq k)], hE0⟩
      · have hil : i = p.length := by simp at h; omega
        subst hil
        simp (maxSteps := 2000000) (disch := first | omega | (simp only [AH.size_new, AH.size_put] <;> omega) | fail) only [amR Tryd.prog ro X, amS, seval, reduceCtorEq, ty3, ty9, ty27, ty29, ty109]
        refine ⟨?_, hE0⟩
        rw [List.take_length, c, List.take_length] at hall
        rw [decide_eq_true hall]
  · have c' : ¬ (p.length : Int) = q.length := by omega
    simp (maxSteps := 2000000) (disch := first | omega | (simp only [AH.size_new, AH.size_put] <;> omega) | fail) only [amR Tryd.prog ro X, amS, seval, reduceCtorEq, ty3, ty9, ty27, ty29, ty109, hl1, hl2, c']
    exact ⟨by rw [decide_eq_false (fun h => c (by rw [h]))], (by ((repeat' (first | exact Ext.refl _ | assumption | refine Ext.trans ?_ (Ext.new _ _) | refine Ext.put ?_ ?_ _ | refine Ext.trans ?_ (by assumption))) <;> (first | omega | (simp only [AH.size_new, AH.size_put] <;> omega))))⟩
theorem spec.l5SameProgram_a (A : AH) (hro : ro ≤ A.size) (s1 s2 : Sl) (p q : List TIns) (F1 F2 : List Nat) (h1 : SlR A s1 p F1) (h2 : SlR A s2 q F2) (hl : p.length < 1152921504606846976) :
    ACalls Tryd.prog ro X 172 [.agg #[s1.v], .agg #[s2.v]] A (fun r A' => r = .ret (.bool (decide (p = q))) ∧ Ext A A') := by
  refine ACalls.enterQ (rs := [.tmp 4]) Tryd.func172 rfl (by kernel_rfl) rfl ?_
  have hl1 := h1.len
  have hl2 := h2.len
  by_cases c : p.length = q.length
  · have c' : (p.length : Int) = q.length := by omega
    simp (maxSteps := 2000000) (disch := first | omega | (simp only [AH.size_new, AH.size_put] <;> omega) | fail) only [amR Tryd.prog ro X, amS, seval, reduceCtorEq, ty3, ty9, ty27, ty29, ty109, hl1, hl2, c']
    generalize hA0 : (A.new _).new _ = A0
    have hE0 : Ext A A0 := by rw [← hA0]; exact (by ((repeat' (first | exact Ext.refl _ | assumption | refine Ext.trans ?_ (Ext.new _ _) | refine Ext.put ?_ ?_ _ | refine Ext.trans ?_ (by assumption))) <;> (first | omega | (simp only [AH.size_new, AH.size_put] <;> omega))))
    have hz0 : A0.size = A.size + 2 := by rw [← hA0]; rfl
    have g2 : A0.get A.size = .cells [s1.v] 1 := by rw [← hA0, AH.get_new_other (by simp only [AH.size_new]; omega)]; exact AH.get_new_self _ _
    have g3 : A0.get (A.size + 1) = .cells [s2.v] 1 := by rw [← hA0]; exact AH.get_new_self _ _
    refine Wp.loopC (fun n e A' => A' = A0 ∧ e 2 = .pointer (some ⟨A.size, 0, none⟩) ∧ e 3 = .pointer (some ⟨A.size + 1, 0, none⟩) ∧  ∃ i : Nat, i ≤ p.length ∧ n = p.length - i ∧ e 5 = .int .i64 i ∧ p.take i = q.take i) (p.length - 0) ?_ ?_
    · simp (maxSteps := 2000000) (disch := first | omega | (simp only [AH.size_new, AH.size_put] <;> omega) | fail) only [amV, amH, amQ, amL, amN Tryd.prog, amS, seval, reduceCtorEq, ty3, ty9, ty27, ty29, ty109, hl1, hl2, c']
      exact ⟨0, by omega, rfl, rfl, by simp⟩
    · rintro n e A' ⟨rfl, e2, e3, i, hi, rfl, eI, hall⟩
      simp (maxSteps := 2000000) (disch := first | omega | (simp only [AH.size_new, AH.size_put] <;> omega) | fail) only [amR Tryd.prog ro X, amS, seval, reduceCtorEq, ty3, ty9, ty27, ty29, ty109, e2, e3, eI, g2, hl1]
      refine CondB.split (fun h => ?_) (fun h => ?_)
      · have hil : i < p.length := by first | simpa using h | (simp at h; omega)
        have hiq : i < q.length := by omega
        obtain ⟨n1, b1, i1, r1, _⟩ := (h1.ext hE0).ins hil
        obtain ⟨n2, b2, i2, r2, _⟩ := (h2.ext hE0).ins hiq
        have heq := ne_isi (P := Tryd.prog) (Tryd.underlying109) (by decide) (by decide) (by decide) (by simp only [ty3]) (by simp only [ty9]) (by simp only [ty3]) (by kernel_rfl) p[i] q[i]
        simp (maxSteps := 2000000) (disch := first | omega | (simp only [AH.size_new, AH.size_put] <;> omega) | fail) only [amR Tryd.prog ro X, amS, seval, reduceCtorEq, ty3, ty9, ty27, ty29, ty109, e2, e3, eI, g2, g3]
        refine WpH (A'.size) [] (by kernel_rfl) (.inl (by kernel_rfl)) ?_
        by_cases k : p[i] = q[i]
        · rw [decide_eq_true k] at heq
          simp (maxSteps := 2000000) (disch := first | omega | (simp only [AH.size_new, AH.size_put] <;> omega) | fail) only [amX2 Tryd.prog ro X, amX Tryd.prog ro X, amR Tryd.prog ro X, amS, seval, reduceCtorEq, ty3, ty9, ty27, ty29, ty109, e2, e3, eI, g2, g3, n1, n2, r1, r2, heq]
          exact ⟨p.length - (i + 1), by omega, i + 1, by omega, rfl, by simp, same_step hall hil hiq k⟩
        · rw [decide_eq_false k] at heq
          simp (maxSteps := 2000000) (disch := first | omega | (simp only [AH.size_new, AH.size_put] <;> omega) | fail) only [amX2 Tryd.prog ro X, amX Tryd.prog ro X, amR Tryd.prog ro X, amS, seval, reduceCtorEq, ty3, ty9, ty27, ty29, ty109, e2, e3, eI, g2, g3, n1, n2, r1, r2, heq]
          exact ⟨by rw [decide_eq_false (same_ne hil hiq k)], hE0⟩
      · have hil : i = p.length := by simp at h; omega
        subst hil
        simp (maxSteps := 2000000) (disch := first | omega | (simp only [AH.size_new, AH.size_put] <;> omega) | fail) only [amR Tryd.prog ro X, amS, seval, reduceCtorEq, ty3, ty9, ty27, ty29, ty109]
        refine ⟨?_, hE0⟩
        rw [List.take_length, c, List.take_length] at hall
        rw [decide_eq_true hall]
  · have c' : ¬ (p.length : Int) = q.length := by omega
    simp (maxSteps := 2000000) (disch := first | omega | (simp only [AH.size_new, AH.size_put] <;> omega) | fail) only [amR Tryd.prog ro X, amS, seval, reduceCtorEq, ty3, ty9, ty27, ty29, ty109, hl1, hl2, c']
    exact ⟨by rw [decide_eq_false (fun h => c (by rw [h]))], (by ((repeat' (first | exact Ext.refl _ | assumption | refine Ext.trans ?_ (Ext.new _ _) | refine Ext.put ?_ ?_ _ | refine Ext.trans ?_ (by assumption))) <;> (first | omega | (simp only [AH.size_new, AH.size_put] <;> omega))))⟩
theorem impl.sameRecord_a (A : AH) (hro : ro ≤ A.size) (s1 s2 u1 u2 : Sl) (x y : TRecord) (F1 F2 G1 G2 : List Nat) (h1 : SlR A s1 x.1 F1) (h2 : SlR A s2 x.2.1 F2) (k1 : SlR A u1 y.1 G1) (k2 : SlR A u2 y.2.1 G2) (hl : x.1.length < 1152921504606846976) (hl' : x.2.1.length < 1152921504606846976) :
    ACalls Tryd.prog ro X 135 [.agg #[s1.v, s2.v, .string x.2.2], .agg #[u1.v, u2.v, .string y.2.2]] A (fun r A' => r = .ret (.bool (decide (x = y))) ∧ Ext A A') := by
  refine ACalls.enterQ (rs := [.tmp 4]) Tryd.func135 rfl (by kernel_rfl) rfl ?_
  have hl2 := h2.len
  have kl2 := k2.len
  by_cases c1 : x.2.2 = y.2.2
  · by_cases c2 : x.2.1.length = y.2.1.length
    · have c2' : (x.2.1.length : Int) = y.2.1.length := by omega
      simp (maxSteps := 2000000) (disch := first | omega | (simp only [AH.size_new, AH.size_put] <;> omega) | fail) only [amR Tryd.prog ro X, amS, seval, reduceCtorEq, ty3, ty4, ty9, ty27, ty29, ty67, ty69, ty153, hl2, kl2, c1, c2']
      refine (impl.sameProgram_a _ (by first | omega | (simp only [AH.size_new, AH.size_put] <;> omega)) s1 u1 x.1 y.1 F1 G1 (h1.ext (by ((repeat' (first | exact Ext.refl _ | assumption | refine Ext.trans ?_ (Ext.new _ _) | refine Ext.put ?_ ?_ _ | refine Ext.trans ?_ (by assumption))) <;> (first | omega | (simp only [AH.size_new, AH.size_put] <;> omega))))) (k1.ext (by ((repeat' (first | exact Ext.refl _ | assumption | refine Ext.trans ?_ (Ext.new _ _) | refine Ext.put ?_ ?_ _ | refine Ext.trans ?_ (by assumption))) <;> (first | omega | (simp only [AH.size_new, AH.size_put] <;> omega))))) hl).mono ?_
      rintro r A0 ⟨rfl, hE1⟩
      have v1 := hE1.size
      simp only [AH.size_new] at v1
      have hE0 : Ext A A0 := (by ((repeat' (first | exact Ext.refl _ | assumption | refine Ext.trans ?_ (Ext.new _ _) | refine Ext.put ?_ ?_ _ | refine Ext.trans ?_ (by assumption))) <;> (first | omega | (simp only [AH.size_new, AH.size_put] <;> omega))))
      have g2 : A0.get A.size = .cells [s1.v, s2.v, .string x.2.2] 3 := (hE1.get A.size (by first | omega | (simp only [AH.size_new, AH.size_put] <;> omega))).trans (by rw [AH.get_new_other (by simp only [AH.size_new]; omega), AH.get_new_self, c1])
      have g3 : A0.get (A.size + 1) = .cells [u1.v, u2.v, .string y.2.2] 3 := (hE1.get (A.size + 1) (by first | omega | (simp only [AH.size_new, AH.size_put] <;> omega))).trans (AH.get_new_self _ _)
      by_cases c3 : x.1 = y.1
      · simp (maxSteps := 2000000) (disch := first | omega | (simp only [AH.size_new, AH.size_put] <;> omega) | fail) only [amR Tryd.prog ro X, amS, seval, reduceCtorEq, ty3, ty4, ty9, ty27, ty29, ty67, ty69, ty153, g2, g3, hl2, kl2, c3]
        refine Wp.loopC (fun n e A' => A' = A0 ∧ e 2 = .pointer (some ⟨A.size, 0, none⟩) ∧ e 3 = .pointer (some ⟨A.size + 1, 0, none⟩) ∧ e 30 = .int .i64 x.2.1.length ∧ ∃ i : Nat, i ≤ x.2.1.length ∧ n = x.2.1.length - i ∧ e 31 = .int .i64 i ∧ x.2.1.take i = y.2.1.take i) (x.2.1.length - 0) ?_ ?_
        · simp (maxSteps := 2000000) (disch := first | omega | (simp only [AH.size_new, AH.size_put] <;> omega) | fail) only [amV, amH, amQ, amL, amN Tryd.prog, amS, seval, reduceCtorEq, ty3, ty4, ty9, ty27, ty29, ty67, ty69, ty153, hl2, c2']
          exact ⟨0, by omega, rfl, rfl, by simp⟩
        · rintro n e A' ⟨rfl, e2, e3, e30, i, hi, rfl, eI, hall⟩
          simp (maxSteps := 2000000) (disch := first | omega | (simp only [AH.size_new, AH.size_put] <;> omega) | fail) only [amR Tryd.prog ro X, amS, seval, reduceCtorEq, ty3, ty4, ty9, ty27, ty29, ty67, ty69, ty153, e2, e3, e30, eI, g2, hl2]
          refine CondB.split (fun h => ?_) (fun h => ?_)
          · have hil : i < x.2.1.length := by first | simpa using h | (simp at h; omega)
            have hiq : i < y.2.1.length := by omega
            obtain ⟨n1, b1, i1, r1, _⟩ := (h2.ext hE0).glance hil
            obtain ⟨n2, b2, i2, r2, _⟩ := (k2.ext hE0).glance hiq
            have heq := ne_sbs (P := Tryd.prog) (Tryd.underlying153) (by decide) (by decide) (by decide) (by simp only [ty9]) (by simp only [ty4]) (by simp only [ty9]) (by kernel_rfl) x.2.1[i] y.2.1[i]
            simp (maxSteps := 2000000) (disch := first | omega | (simp only [AH.size_new, AH.size_put] <;> omega) | fail) only [amR Tryd.prog ro X, amS, seval, reduceCtorEq, ty3, ty4, ty9, ty27, ty29, ty67, ty69, ty153, e2, e3, e30, eI, g2, g3]
            refine WpH (A'.size) [] (by kernel_rfl) (.inl (by kernel_rfl)) ?_
            by_cases k : x.2.1[i] = y.2.1[i]
            · rw [decide_eq_true k] at heq
              simp (maxSteps := 2000000) (disch := first | omega | (simp only [AH.size_new, AH.size_put] <;> omega) | fail) only [amX2 Tryd.prog ro X, amX Tryd.prog ro X, amR Tryd.prog ro X, amS, seval, reduceCtorEq, ty3, ty4, ty9, ty27, ty29, ty67, ty69, ty153, e2, e3, e30, eI, g2, g3, n1, n2, r1, r2, heq]
              exact ⟨x.2.1.length - (i + 1), by omega, i + 1, by omega, rfl, by simp, same_step hall hil hiq k⟩
            · rw [decide_eq_false k] at heq
              simp (maxSteps := 2000000) (disch := first | omega | (simp only [AH.size_new, AH.size_put] <;> omega) | fail) only [amX2 Tryd.prog ro X, amX Tryd.prog ro X, amR Tryd.prog ro X, amS, seval, reduceCtorEq, ty3, ty4, ty9, ty27, ty29, ty67, ty69, ty153, e2, e3, e30, eI, g2, g3, n1, n2, r1, r2, heq]
              exact ⟨by rw [decide_eq_false (fun h => same_ne hil hiq k (by rw [h]))], hE0⟩
          · have hil : i = x.2.1.length := by simp at h; omega
            subst hil
            simp (maxSteps := 2000000) (disch := first | omega | (simp only [AH.size_new, AH.size_put] <;> omega) | fail) only [amR Tryd.prog ro X, amS, seval, reduceCtorEq, ty3, ty4, ty9, ty27, ty29, ty67, ty69, ty153]
            refine ⟨?_, hE0⟩
            rw [List.take_length, c2, List.take_length] at hall
            rw [decide_eq_true (rec_eq.2 ⟨c1, hall, c3⟩)]
      · simp (maxSteps := 2000000) (disch := first | omega | (simp only [AH.size_new, AH.size_put] <;> omega) | fail) only [amR Tryd.prog ro X, amS, seval, reduceCtorEq, ty3, ty4, ty9, ty27, ty29, ty67, ty69, ty153, g2, g3, c3]
        exact ⟨by rw [decide_eq_false (fun h => c3 (by rw [h]))], hE0⟩
    · have c2' : ¬ (x.2.1.length : Int) = y.2.1.length := by omega
      simp (maxSteps := 2000000) (disch := first | omega | (simp only [AH.size_new, AH.size_put] <;> omega) | fail) only [amR Tryd.prog ro X, amS, seval, reduceCtorEq, ty3, ty4, ty9, ty27, ty29, ty67, ty69, ty153, hl2, kl2, c1, c2']
      exact ⟨by rw [decide_eq_false (fun h => c2 (by rw [h]))], (by ((repeat' (first | exact Ext.refl _ | assumption | refine Ext.trans ?_ (Ext.new _ _) | refine Ext.put ?_ ?_ _ | refine Ext.trans ?_ (by assumption))) <;> (first | omega | (simp only [AH.size_new, AH.size_put] <;> omega))))⟩
  · simp (maxSteps := 2000000) (disch := first | omega | (simp only [AH.size_new, AH.size_put] <;> omega) | fail) only [amR Tryd.prog ro X, amS, seval, reduceCtorEq, ty3, ty4, ty9, ty27, ty29, ty67, ty69, ty153, c1]
    exact ⟨by rw [decide_eq_false (fun h => c1 (by rw [h]))], (by ((repeat' (first | exact Ext.refl _ | assumption | refine Ext.trans ?_ (Ext.new _ _) | refine Ext.put ?_ ?_ _ | refine Ext.trans ?_ (by assumption))) <;> (first | omega | (simp only [AH.size_new, AH.size_put] <;> omega))))⟩
theorem spec.l6Same_a (A : AH) (hro : ro ≤ A.size) (s1 s2 u1 u2 : Sl) (x y : TRecord) (F1 F2 G1 G2 : List Nat) (h1 : SlR A s1 x.1 F1) (h2 : SlR A s2 x.2.1 F2) (k1 : SlR A u1 y.1 G1) (k2 : SlR A u2 y.2.1 G2) (hl : x.1.length < 1152921504606846976) (hl' : x.2.1.length < 1152921504606846976) :
    ACalls Tryd.prog ro X 133 [.agg #[s1.v, s2.v, .string x.2.2], .agg #[u1.v, u2.v, .string y.2.2]] A (fun r A' => r = .ret (.bool (decide (x = y))) ∧ Ext A A') := by
  refine ACalls.enterQ (rs := [.tmp 4]) Tryd.func133 rfl (by kernel_rfl) rfl ?_
  have hl2 := h2.len
  have kl2 := k2.len
  by_cases c1 : x.2.2 = y.2.2
  · by_cases c2 : x.2.1.length = y.2.1.length
    · have c2' : (x.2.1.length : Int) = y.2.1.length := by omega
      simp (maxSteps := 2000000) (disch := first | omega | (simp only [AH.size_new, AH.size_put] <;> omega) | fail) only [amR Tryd.prog ro X, amS, seval, reduceCtorEq, ty3, ty4, ty9, ty27, ty29, ty67, ty69, ty153, hl2, kl2, c1, c2']
      refine (spec.l5SameProgram_a _ (by first | omega | (simp only [AH.size_new, AH.size_put] <;> omega)) s1 u1 x.1 y.1 F1 G1 (h1.ext (by ((repeat' (first | exact Ext.refl _ | assumption | refine Ext.trans ?_ (Ext.new _ _) | refine Ext.put ?_ ?_ _ | refine Ext.trans ?_ (by assumption))) <;> (first | omega | (simp only [AH.size_new, AH.size_put] <;> omega))))) (k1.ext (by ((repeat' (first | exact Ext.refl _ | assumption | refine Ext.trans ?_ (Ext.new _ _) | refine Ext.put ?_ ?_ _ | refine Ext.trans ?_ (by assumption))) <;> (first | omega | (simp only [AH.size_new, AH.size_put] <;> omega))))) hl).mono ?_
      rintro r A0 ⟨rfl, hE1⟩
      have v1 := hE1.size
      simp only [AH.size_new] at v1
      have hE0 : Ext A A0 := (by ((repeat' (first | exact Ext.refl _ | assumption | refine Ext.trans ?_ (Ext.new _ _) | refine Ext.put ?_ ?_ _ | refine Ext.trans ?_ (by assumption))) <;> (first | omega | (simp only [AH.size_new, AH.size_put] <;> omega))))
      have g2 : A0.get A.size = .cells [s1.v, s2.v, .string x.2.2] 3 := (hE1.get A.size (by first | omega | (simp only [AH.size_new, AH.size_put] <;> omega))).trans (by rw [AH.get_new_other (by simp only [AH.size_new]; omega), AH.get_new_self, c1])
      have g3 : A0.get (A.size + 1) = .cells [u1.v, u2.v, .string y.2.2] 3 := (hE1.get (A.size + 1) (by first | omega | (simp only [AH.size_new, AH.size_put] <;> omega))).trans (AH.get_new_self _ _)
      by_cases c3 : x.1 = y.1
      · simp (maxSteps := 2000000) (disch := first | omega | (simp only [AH.size_new, AH.size_put] <;> omega) | fail) only [amR Tryd.prog ro X, amS, seval, reduceCtorEq, ty3, ty4, ty9, ty27, ty29, ty67, ty69, ty153, g2, g3, hl2, kl2, c3]
        refine Wp.loopC (fun n e A' => A' = A0 ∧ e 2 = .pointer (some ⟨A.size, 0, none⟩) ∧ e 3 = .pointer (some ⟨A.size + 1, 0, none⟩) ∧  ∃ i : Nat, i ≤ x.2.1.length ∧ n = x.2.1.length - i ∧ e 5 = .int .i64 i ∧ x.2.1.take i = y.2.1.take i) (x.2.1.length - 0) ?_ ?_
        · simp (maxSteps := 2000000) (disch := first | omega | (simp only [AH.size_new, AH.size_put] <;> omega) | fail) only [amV, amH, amQ, amL, amN Tryd.prog, amS, seval, reduceCtorEq, ty3, ty4, ty9, ty27, ty29, ty67, ty69, ty153, hl2, c2']
          exact ⟨0, by omega, rfl, rfl, by simp⟩
        · rintro n e A' ⟨rfl, e2, e3, i, hi, rfl, eI, hall⟩
          simp (maxSteps := 2000000) (disch := first | omega | (simp only [AH.size_new, AH.size_put] <;> omega) | fail) only [amR Tryd.prog ro X, amS, seval, reduceCtorEq, ty3, ty4, ty9, ty27, ty29, ty67, ty69, ty153, e2, e3, eI, g2, hl2]
          refine CondB.split (fun h => ?_) (fun h => ?_)
          · have hil : i < x.2.1.length := by first | simpa using h | (simp at h; omega)
            have hiq : i < y.2.1.length := by omega
            obtain ⟨n1, b1, i1, r1, _⟩ := (h2.ext hE0).glance hil
            obtain ⟨n2, b2, i2, r2, _⟩ := (k2.ext hE0).glance hiq
            have heq := ne_sbs (P := Tryd.prog) (Tryd.underlying153) (by decide) (by decide) (by decide) (by simp only [ty9]) (by simp only [ty4]) (by simp only [ty9]) (by kernel_rfl) x.2.1[i] y.2.1[i]
            simp (maxSteps := 2000000) (disch := first | omega | (simp only [AH.size_new, AH.size_put] <;> omega) | fail) only [amR Tryd.prog ro X, amS, seval, reduceCtorEq, ty3, ty4, ty9, ty27, ty29, ty67, ty69, ty153, e2, e3, eI, g2, g3]
            refine WpH (A'.size) [] (by kernel_rfl) (.inl (by kernel_rfl)) ?_
            by_cases k : x.2.1[i] = y.2.1[i]
            · rw [decide_eq_true k] at heq
              simp (maxSteps := 2000000) (disch := first | omega | (simp only [AH.size_new, AH.size_put] <;> omega) | fail) only [amX2 Tryd.prog ro X, amX Tryd.prog ro X, amR Tryd.prog ro X, amS, seval, reduceCtorEq, ty3, ty4, ty9, ty27, ty29, ty67, ty69, ty153, e2, e3, eI, g2, g3, n1, n2, r1, r2, heq]
              exact ⟨x.2.1.length - (i + 1), by omega, i + 1, by omega, rfl, by simp, same_step hall hil hiq k⟩
            · rw [decide_eq_false k] at heq
              simp (maxSteps := 2000000) (disch := first | omega | (simp only [AH.size_new, AH.size_put] <;> omega) | fail) only [amX2 Tryd.prog ro X, amX Tryd.prog ro X, amR Tryd.prog ro X, amS, seval, reduceCtorEq, ty3, ty4, ty9, ty27, ty29, ty67, ty69, ty153, e2, e3, eI, g2, g3, n1, n2, r1, r2, heq]
              exact ⟨by rw [decide_eq_false (fun h => same_ne hil hiq k (by rw [h]))], hE0⟩
          · have hil : i = x.2.1.length := by simp at h; omega
            subst hil
            simp (maxSteps := 2000000) (disch := first | omega | (simp only [AH.size_new, AH.size_put] <;> omega) | fail) only [amR Tryd.prog ro X, amS, seval, reduceCtorEq, ty3, ty4, ty9, ty27, ty29, ty67, ty69, ty153]
            refine ⟨?_, hE0⟩
            rw [List.take_length, c2, List.take_length] at hall
            rw [decide_eq_true (rec_eq.2 ⟨c1, hall, c3⟩)]
      · simp (maxSteps := 2000000) (disch := first | omega | (simp only [AH.size_new, AH.size_put] <;> omega) | fail) only [amR Tryd.prog ro X, amS, seval, reduceCtorEq, ty3, ty4, ty9, ty27, ty29, ty67, ty69, ty153, g2, g3, c3]
        exact ⟨by rw [decide_eq_false (fun h => c3 (by rw [h]))], hE0⟩
    · have c2' : ¬ (x.2.1.length : Int) = y.2.1.length := by omega
      simp (maxSteps := 2000000) (disch := first | omega | (simp only [AH.size_new, AH.size_put] <;> omega) | fail) only [amR Tryd.prog ro X, amS, seval, reduceCtorEq, ty3, ty4, ty9, ty27, ty29, ty67, ty69, ty153, hl2, kl2, c1, c2']
      exact ⟨by rw [decide_eq_false (fun h => c2 (by rw [h]))], (by ((repeat' (first | exact Ext.refl _ | assumption | refine Ext.trans ?_ (Ext.new _ _) | refine Ext.put ?_ ?_ _ | refine Ext.trans ?_ (by assumption))) <;> (first | omega | (simp only [AH.size_new, AH.size_put] <;> omega))))⟩
  · simp (maxSteps := 2000000) (disch := first | omega | (simp only [AH.size_new, AH.size_put] <;> omega) | fail) only [amR Tryd.prog ro X, amS, seval, reduceCtorEq, ty3, ty4, ty9, ty27, ty29, ty67, ty69, ty153, c1]
    exact ⟨by rw [decide_eq_false (fun h => c1 (by rw [h]))], (by ((repeat' (first | exact Ext.refl _ | assumption | refine Ext.trans ?_ (Ext.new _ _) | refine Ext.put ?_ ?_ _ | refine Ext.trans ?_ (by assumption))) <;> (first | omega | (simp only [AH.size_new, AH.size_put] <;> omega))))⟩
end Go.Proofs.YtcdnlghlbljopaaDoor.Amu.Same
