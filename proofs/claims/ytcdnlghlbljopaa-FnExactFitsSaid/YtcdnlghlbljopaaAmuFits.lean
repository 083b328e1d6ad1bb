/- Fits: how many looks of a record hold still. -/
import Derived.Test.YtcdnlghlbljopaaAmX
import Derived.Test.YtcdnlghlbljopaaAmuSum
namespace Go.Proofs.Ytcdnlghlbljopaa.Amu.Fits
open Go Go.AM Go.Proofs
set_option linter.unusedVariables false
set_option linter.unusedSimpArgs false
theorem ty3 : tKind Try.prog 3 = some (.int .i64) ∧ tSize Try.prog 3 = some 1 ∧ tAgg Try.prog 3 = some false ∧ tZero Try.prog 3 = some (.int .i64 0) := ⟨by kernel_rfl, by kernel_rfl, by kernel_rfl, by kernel_rfl⟩
theorem ty4 : tKind Try.prog 4 = some (.bool) ∧ tSize Try.prog 4 = some 1 ∧ tAgg Try.prog 4 = some false ∧ tZero Try.prog 4 = some (.bool false) := ⟨by kernel_rfl, by kernel_rfl, by kernel_rfl, by kernel_rfl⟩
theorem ty9 : tKind Try.prog 9 = some (.str) ∧ tSize Try.prog 9 = some 1 ∧ tAgg Try.prog 9 = some false ∧ tZero Try.prog 9 = some (.string ByteArray.empty) := ⟨by kernel_rfl, by kernel_rfl, by kernel_rfl, by kernel_rfl⟩
theorem ty34 : tKind Try.prog 34 = some (.struct) ∧ tSize Try.prog 34 = some 1 ∧ tAgg Try.prog 34 = some true ∧ tZero Try.prog 34 = some (.agg #[.slice none 0 0]) ∧ tField Try.prog 34 0 = some (0, 32) ∧ tPlaces Try.prog 34 = some [(0, 1)] := ⟨by kernel_rfl, by kernel_rfl, by kernel_rfl, by kernel_rfl, by kernel_rfl, by kernel_rfl⟩
theorem ty35 : tKind Try.prog 35 = some (.slice) ∧ tSize Try.prog 35 = some 1 ∧ tAgg Try.prog 35 = some false ∧ tZero Try.prog 35 = some (.slice none 0 0) ∧ tElem Try.prog 35 = some 51 ∧ tElemSize Try.prog 35 = some 3 ∧ tBytes Try.prog 35 = false := ⟨by kernel_rfl, by kernel_rfl, by kernel_rfl, by kernel_rfl, by kernel_rfl, by kernel_rfl, by kernel_rfl⟩
theorem ty37 : tKind Try.prog 37 = some (.struct) ∧ tSize Try.prog 37 = some 3 ∧ tAgg Try.prog 37 = some true ∧ tZero Try.prog 37 = some (.agg #[.slice none 0 0, .slice none 0 0, .string ByteArray.empty]) ∧ tField Try.prog 37 0 = some (0, 34) ∧ tField Try.prog 37 1 = some (1, 35) ∧ tField Try.prog 37 2 = some (2, 9) ∧ tPlaces Try.prog 37 = some [(0, 1), (1, 1), (2, 1)] := ⟨by kernel_rfl, by kernel_rfl, by kernel_rfl, by kernel_rfl, by kernel_rfl, by kernel_rfl, by kernel_rfl, by kernel_rfl⟩
theorem ty39 : tKind Try.prog 39 = some (.slice) ∧ tSize Try.prog 39 = some 1 ∧ tAgg Try.prog 39 = some false ∧ tZero Try.prog 39 = some (.slice none 0 0) ∧ tElem Try.prog 39 = some 52 ∧ tElemSize Try.prog 39 = some 3 ∧ tBytes Try.prog 39 = false := ⟨by kernel_rfl, by kernel_rfl, by kernel_rfl, by kernel_rfl, by kernel_rfl, by kernel_rfl, by kernel_rfl⟩
theorem ty51 : tKind Try.prog 51 = some (.struct) ∧ tSize Try.prog 51 = some 3 ∧ tAgg Try.prog 51 = some true ∧ tZero Try.prog 51 = some (.agg #[.string ByteArray.empty, .bool false, .string ByteArray.empty]) ∧ tField Try.prog 51 0 = some (0, 9) ∧ tField Try.prog 51 1 = some (1, 4) ∧ tField Try.prog 51 2 = some (2, 9) ∧ tPlaces Try.prog 51 = some [(0, 1), (1, 1), (2, 1)] := ⟨by kernel_rfl, by kernel_rfl, by kernel_rfl, by kernel_rfl, by kernel_rfl, by kernel_rfl, by kernel_rfl, by kernel_rfl⟩
theorem ty52 : tKind Try.prog 52 = some (.struct) ∧ tSize Try.prog 52 = some 3 ∧ tAgg Try.prog 52 = some true ∧ tZero Try.prog 52 = some (.agg #[.string ByteArray.empty, .bool false, .string ByteArray.empty]) ∧ tField Try.prog 52 0 = some (0, 9) ∧ tField Try.prog 52 1 = some (1, 4) ∧ tField Try.prog 52 2 = some (2, 9) ∧ tPlaces Try.prog 52 = some [(0, 1), (1, 1), (2, 1)] := ⟨by kernel_rfl, by kernel_rfl, by kernel_rfl, by kernel_rfl, by kernel_rfl, by kernel_rfl, by kernel_rfl, by kernel_rfl⟩

variable {ro : Nat} {X : FuncId → List Value → AH → ARes → AH → Prop}
set_option maxRecDepth 10000
def fitGo (w : Int) : List TGlance → List TSeen → Nat
  | g :: gs, s :: ss => if g.1 = s.1 ∧ g.2.1 = s.2.1 ∧ g.2.2 = sumS s.2.2 w then 1 + fitGo w gs ss else 0
  | _, _ => 0
def fitB (w : Int) (a b : Nat) : Prop := isW w ∧ a ≤ 200 ∧ b ≤ 200
instance (w : Int) (a b : Nat) : Decidable (fitB w a b) := by unfold fitB; infer_instance
def fitR (w : Int) (l : List TGlance) (m : List TSeen) : Int := if fitB w l.length m.length then fitGo w l m else 0
theorem fitR_0 {w : Int} {l : List TGlance} {m : List TSeen} (h : ¬ fitB w l.length m.length) : fitR w l m = 0 := if_neg h
theorem fitGo_nil1 (w : Int) (m : List TSeen) : fitGo w [] m = 0 := by cases m <;> rfl
theorem fitGo_nil2 (w : Int) (l : List TGlance) : fitGo w l [] = 0 := by cases l <;> rfl
theorem seen_at {A : AH} {s : Sl} {l : List TSeen} {F : List Nat} (h : SlR A s l F) {i : Nat} (hi : i < l.length) : s.nl = false ∧ s.b < A.size ∧ i < s.len ∧
    rowK (s.o + i * 3) 3 (A.get s.b) = some [.string l[i].1, .bool l[i].2.1, .string l[i].2.2] ∧ l[i].1.size < 4611686018427387904 ∧ l[i].2.2.size < 4611686018427387904 := by
  obtain ⟨n1, b1, m1, i1, cs, Fi, c1, q1, _⟩ := h.row hi
  rw [aRow_eq] at c1
  obtain ⟨rfl, _, z1, z2⟩ := rep_Seen.1 q1
  exact ⟨n1, b1, i1, c1, big_lt z1, big_lt z2⟩
theorem impl_a (A : AH) (hro : ro ≤ A.size) (s1 s2 : Sl) (x : TRecord) (F1 F2 : List Nat) (h1 : SlR A s1 x.1 F1) (h2 : SlR A s2 x.2.1 F2) (s : Sl) (m : List TSeen) (F : List Nat) (hs : SlR A s m F) (w : Int) :
    ACalls Try.prog ro X 9 [.agg #[s1.v, s2.v, .string x.2.2], s.v, .int .i64 w] A (fun r A' => r = .ret (.int .i64 (fitR w x.2.1 m)) ∧ Ext A A') := by
  refine ACalls.enterQ (rs := [.tmp 6]) Try.func9 rfl (by kernel_rfl) rfl ?_
  have hl1 := h2.len
  have hl2 := hs.len
  simp (maxSteps := 2000000) (disch := first | omega | (simp only [AH.size_new, AH.size_put] <;> omega) | fail) only [amR Try.prog ro X, amS, seval, reduceCtorEq, ty3, ty4, ty9, ty34, ty35, ty37, ty39, ty51, ty52]
  refine (Sum.impl.isWidth_a _ w).mono ?_
  rintro r A1 ⟨rfl, rfl⟩
  by_cases hw : isW w
  · by_cases k1 : (200 : Int) < x.2.1.length
    · simp (maxSteps := 2000000) (disch := first | omega | (simp only [AH.size_new, AH.size_put] <;> omega) | fail) only [amR Try.prog ro X, amS, seval, reduceCtorEq, ty3, ty4, ty9, ty34, ty35, ty37, ty39, ty51, ty52, hw, k1, hl1, hl2]
      exact ⟨by rw [fitR_0]; intro h; have := h.2.1; omega, (by ((repeat' (first | exact Ext.refl _ | assumption | refine Ext.trans ?_ (Ext.new _ _) | refine Ext.put ?_ ?_ _ | refine Ext.trans ?_ (by assumption))) <;> (first | omega | (simp only [AH.size_new, AH.size_put] <;> omega))))⟩
    by_cases k2 : (200 : Int) < m.length
    · simp (maxSteps := 2000000) (disch := first | omega | (simp only [AH.size_new, AH.size_put] <;> omega) | fail) only [amR Try.prog ro X, amS, seval, reduceCtorEq, ty3, ty4, ty9, ty34, ty35, ty37, ty39, ty51, ty52, hw, k1, k2, hl1, hl2]
      exact ⟨by rw [fitR_0]; intro h; have := h.2.2; omega, (by ((repeat' (first | exact Ext.refl _ | assumption | refine Ext.trans ?_ (Ext.new _ _) | refine Ext.put ?_ ?_ _ | refine Ext.trans ?_ (by assumption))) <;> (first | omega | (simp only [AH.size_new, AH.size_put] <;> omega))))⟩
    have hR : fitR w x.2.1 m = fitGo w x.2.1 m := if_pos ⟨hw, by omega, by omega⟩
    rw [hR]
    simp (maxSteps := 2000000) (disch := first | omega | (simp only [AH.size_new, AH.size_put] <;> omega) | fail) only [amR Try.prog ro X, amS, seval, reduceCtorEq, ty3, ty4, ty9, ty34, ty35, ty37, ty39, ty51, ty52, hw, k1, k2, hl1, hl2]
    generalize hA0 : A.new _ = A0
    have hE0 : Ext A A0 := by rw [← hA0]; exact Ext.new _ _
    have hg0 : A0.get A.size = .cells [s1.v, s2.v, .string x.2.2] 3 := by rw [← hA0]; exact AH.get_new_self _ _
    have hz0 : A0.size = A.size + 1 := by rw [← hA0]; exact AH.size_new _ _
    refine Wp.loopC (fun n e A' => Ext A0 A' ∧ e 1 = s.v ∧ e 2 = .int .i64 w ∧ e 3 = .pointer (some ⟨A.size, 0, none⟩) ∧ ∃ i : Nat, i ≤ x.2.1.length ∧ i ≤ m.length ∧ n = x.2.1.length - i ∧ e 7 = .int .i64 i ∧ fitGo w x.2.1 m = i + fitGo w (x.2.1.drop i) (m.drop i)) (x.2.1.length - 0) ?_ ?_
    · simp (maxSteps := 2000000) (disch := first | omega | (simp only [AH.size_new, AH.size_put] <;> omega) | fail) only [amV, amH, amQ, amL, amN Try.prog, amS, seval, reduceCtorEq, ty3, ty4, ty9, ty34, ty35, ty37, ty39, ty51, ty52]
      exact ⟨Ext.refl _, 0, by omega, by omega, rfl, rfl, by simp⟩
    · rintro n e A' ⟨hE, g1, g2, g3, i, hi, hi2, rfl, g7, hgo⟩
      have hz := hE.size
      have hb : A'.get A.size = .cells [s1.v, s2.v, .string x.2.2] 3 := (hE.get _ (by omega)).trans hg0
      by_cases d1 : (i : Int) < x.2.1.length
      · have c1 : i < x.2.1.length := by omega
        by_cases d2 : (i : Int) < m.length
        · have c2 : i < m.length := by omega
          obtain ⟨n1, b1, i1, r1, q1, q2⟩ := (h2.ext (hE0.trans hE)).glance c1
          obtain ⟨n2, b2, i2, r2, q3, q4⟩ := seen_at (hs.ext (hE0.trans hE)) c2
          rw [List.drop_eq_getElem_cons c1, List.drop_eq_getElem_cons c2, fitGo] at hgo
          simp (maxSteps := 2000000) (disch := first | omega | (simp only [AH.size_new, AH.size_put] <;> omega) | fail) only [amR Try.prog ro X, amS, seval, reduceCtorEq, ty3, ty4, ty9, ty34, ty35, ty37, ty39, ty51, ty52, g1, g2, g3, g7, hb, hl1, hl2, n1, n2, r1, r2, d1, d2]
          refine WpH (A'.size) [11] (by kernel_rfl) (.inl (by kernel_rfl)) ?_
          simp (maxSteps := 2000000) (disch := first | omega | (simp only [AH.size_new, AH.size_put] <;> omega) | fail) only [amX Try.prog ro X, amR Try.prog ro X, amS, seval, reduceCtorEq, ty3, ty4, ty9, ty34, ty35, ty37, ty39, ty51, ty52, g1, g2, g3, g7, hb, hl1, hl2, n1, n2, r1, r2, d1, d2]
          refine WpH (A'.size + 2) [18] (by kernel_rfl) (.inl (by kernel_rfl)) ?_
          by_cases p1 : x.2.1[i].1 = m[i].1
          · by_cases p2 : x.2.1[i].2.1 = m[i].2.1
            · simp (maxSteps := 2000000) (disch := first | omega | (simp only [AH.size_new, AH.size_put] <;> omega) | fail) only [amX Try.prog ro X, amR Try.prog ro X, amS, seval, reduceCtorEq, ty3, ty4, ty9, ty34, ty35, ty37, ty39, ty51, ty52, g1, g2, g3, g7, p1, p2]
              refine (Sum.impl_a _ (by first | omega | (simp only [AH.size_new, AH.size_put] <;> omega)) m[i].2.2 w q4).mono ?_
              rintro r A2 ⟨rfl, hE2⟩
              have z2 := hE2.size
              simp only [AH.size_new, AH.size_put] at z2
              by_cases p3 : x.2.1[i].2.2 = sumS m[i].2.2 w
              · rw [if_pos ⟨p1, p2, p3⟩] at hgo
                simp (maxSteps := 2000000) (disch := first | omega | (simp only [AH.size_new, AH.size_put] <;> omega) | fail) only [amX Try.prog ro X, amR Try.prog ro X, amS, seval, reduceCtorEq, ty3, ty4, ty9, ty34, ty35, ty37, ty39, ty51, ty52, g1, g2, g3, g7, p1, p2, p3]
                refine ⟨fun b hb => (hE2.get b (by simp only [AH.size_new, AH.size_put]; omega)).trans (by rw [p3]), ?_⟩
                exact ⟨x.2.1.length - (i + 1), by omega, (by ((repeat' (first | exact Ext.refl _ | assumption | refine Ext.trans ?_ (Ext.new _ _) | refine Ext.put ?_ ?_ _ | refine Ext.trans ?_ (by assumption))) <;> (first | omega | (simp only [AH.size_new, AH.size_put] <;> omega)))), i + 1, by omega, by omega, rfl, by simp, by rw [hgo]; omega⟩
              · rw [if_neg (fun h => p3 h.2.2)] at hgo
                simp (maxSteps := 2000000) (disch := first | omega | (simp only [AH.size_new, AH.size_put] <;> omega) | fail) only [amX Try.prog ro X, amR Try.prog ro X, amS, seval, reduceCtorEq, ty3, ty4, ty9, ty34, ty35, ty37, ty39, ty51, ty52, g1, g2, g3, g7, p1, p2, p3]
                refine ⟨fun b hb => hE2.get b (by simp only [AH.size_new, AH.size_put]; omega), ?_⟩
                exact ⟨by rw [hgo]; rfl, (by ((repeat' (first | exact Ext.refl _ | assumption | refine Ext.trans ?_ (Ext.new _ _) | refine Ext.put ?_ ?_ _ | refine Ext.trans ?_ (by assumption))) <;> (first | omega | (simp only [AH.size_new, AH.size_put] <;> omega))))⟩
            · rw [if_neg (fun h => p2 h.2.1)] at hgo
              cases u1 : x.2.1[i].2.1 <;> cases u2 : m[i].2.1 <;> first | exact absurd (u1.trans u2.symm) p2 | skip
              all_goals
                simp (maxSteps := 2000000) (disch := first | omega | (simp only [AH.size_new, AH.size_put] <;> omega) | fail) only [amX Try.prog ro X, amR Try.prog ro X, amS, seval, reduceCtorEq, ty3, ty4, ty9, ty34, ty35, ty37, ty39, ty51, ty52, g1, g2, g3, g7, p1, u1, u2]
                exact ⟨by rw [hgo]; rfl, (by ((repeat' (first | exact Ext.refl _ | assumption | refine Ext.trans ?_ (Ext.new _ _) | refine Ext.put ?_ ?_ _ | refine Ext.trans ?_ (by assumption))) <;> (first | omega | (simp only [AH.size_new, AH.size_put] <;> omega))))⟩
          · rw [if_neg (fun h => p1 h.1)] at hgo
            simp (maxSteps := 2000000) (disch := first | omega | (simp only [AH.size_new, AH.size_put] <;> omega) | fail) only [amX Try.prog ro X, amR Try.prog ro X, amS, seval, reduceCtorEq, ty3, ty4, ty9, ty34, ty35, ty37, ty39, ty51, ty52, g1, g2, g3, g7, p1]
            exact ⟨by rw [hgo]; rfl, (by ((repeat' (first | exact Ext.refl _ | assumption | refine Ext.trans ?_ (Ext.new _ _) | refine Ext.put ?_ ?_ _ | refine Ext.trans ?_ (by assumption))) <;> (first | omega | (simp only [AH.size_new, AH.size_put] <;> omega))))⟩
        · have e2 : i = m.length := by omega
          rw [e2, List.drop_length, fitGo_nil2] at hgo
          simp (maxSteps := 2000000) (disch := first | omega | (simp only [AH.size_new, AH.size_put] <;> omega) | fail) only [amR Try.prog ro X, amS, seval, reduceCtorEq, ty3, ty4, ty9, ty34, ty35, ty37, ty39, ty51, ty52, g1, g2, g3, g7, hb, hl1, hl2, d1, d2]
          exact ⟨by rw [hgo, e2]; simp, (by ((repeat' (first | exact Ext.refl _ | assumption | refine Ext.trans ?_ (Ext.new _ _) | refine Ext.put ?_ ?_ _ | refine Ext.trans ?_ (by assumption))) <;> (first | omega | (simp only [AH.size_new, AH.size_put] <;> omega))))⟩
      · have e1 : i = x.2.1.length := by omega
        rw [e1, List.drop_length, fitGo_nil1] at hgo
        simp (maxSteps := 2000000) (disch := first | omega | (simp only [AH.size_new, AH.size_put] <;> omega) | fail) only [amR Try.prog ro X, amS, seval, reduceCtorEq, ty3, ty4, ty9, ty34, ty35, ty37, ty39, ty51, ty52, g1, g2, g3, g7, hb, hl1, hl2, d1]
        exact ⟨by rw [hgo, e1]; simp, (by ((repeat' (first | exact Ext.refl _ | assumption | refine Ext.trans ?_ (Ext.new _ _) | refine Ext.put ?_ ?_ _ | refine Ext.trans ?_ (by assumption))) <;> (first | omega | (simp only [AH.size_new, AH.size_put] <;> omega))))⟩
  · simp (maxSteps := 2000000) (disch := first | omega | (simp only [AH.size_new, AH.size_put] <;> omega) | fail) only [amR Try.prog ro X, amS, seval, reduceCtorEq, ty3, ty4, ty9, ty34, ty35, ty37, ty39, ty51, ty52, hw]
    exact ⟨by rw [fitR_0]; intro h; exact hw h.1, (by ((repeat' (first | exact Ext.refl _ | assumption | refine Ext.trans ?_ (Ext.new _ _) | refine Ext.put ?_ ?_ _ | refine Ext.trans ?_ (by assumption))) <;> (first | omega | (simp only [AH.size_new, AH.size_put] <;> omega))))⟩
theorem spec_a (A : AH) (hro : ro ≤ A.size) (s1 s2 : Sl) (x : TRecord) (F1 F2 : List Nat) (h1 : SlR A s1 x.1 F1) (h2 : SlR A s2 x.2.1 F2) (s : Sl) (m : List TSeen) (F : List Nat) (hs : SlR A s m F) (w : Int) :
    ACalls Try.prog ro X 6 [.agg #[s1.v, s2.v, .string x.2.2], s.v, .int .i64 w] A (fun r A' => r = .ret (.int .i64 (fitR w x.2.1 m)) ∧ Ext A A') := by
  refine ACalls.enterQ (rs := [.tmp 6]) Try.func6 rfl (by kernel_rfl) rfl ?_
  have hl1 := h2.len
  have hl2 := hs.len
  simp (maxSteps := 2000000) (disch := first | omega | (simp only [AH.size_new, AH.size_put] <;> omega) | fail) only [amR Try.prog ro X, amS, seval, reduceCtorEq, ty3, ty4, ty9, ty34, ty35, ty37, ty39, ty51, ty52]
  refine (Sum.spec.l1Width_a _ w).mono ?_
  rintro r A1 ⟨rfl, rfl⟩
  by_cases hw : isW w
  · by_cases k1 : (200 : Int) < x.2.1.length
    · simp (maxSteps := 2000000) (disch := first | omega | (simp only [AH.size_new, AH.size_put] <;> omega) | fail) only [amR Try.prog ro X, amS, seval, reduceCtorEq, ty3, ty4, ty9, ty34, ty35, ty37, ty39, ty51, ty52, hw, k1, hl1, hl2]
      exact ⟨by rw [fitR_0]; intro h; have := h.2.1; omega, (by ((repeat' (first | exact Ext.refl _ | assumption | refine Ext.trans ?_ (Ext.new _ _) | refine Ext.put ?_ ?_ _ | refine Ext.trans ?_ (by assumption))) <;> (first | omega | (simp only [AH.size_new, AH.size_put] <;> omega))))⟩
    by_cases k2 : (200 : Int) < m.length
    · simp (maxSteps := 2000000) (disch := first | omega | (simp only [AH.size_new, AH.size_put] <;> omega) | fail) only [amR Try.prog ro X, amS, seval, reduceCtorEq, ty3, ty4, ty9, ty34, ty35, ty37, ty39, ty51, ty52, hw, k1, k2, hl1, hl2]
      exact ⟨by rw [fitR_0]; intro h; have := h.2.2; omega, (by ((repeat' (first | exact Ext.refl _ | assumption | refine Ext.trans ?_ (Ext.new _ _) | refine Ext.put ?_ ?_ _ | refine Ext.trans ?_ (by assumption))) <;> (first | omega | (simp only [AH.size_new, AH.size_put] <;> omega))))⟩
    have hR : fitR w x.2.1 m = fitGo w x.2.1 m := if_pos ⟨hw, by omega, by omega⟩
    rw [hR]
    simp (maxSteps := 2000000) (disch := first | omega | (simp only [AH.size_new, AH.size_put] <;> omega) | fail) only [amR Try.prog ro X, amS, seval, reduceCtorEq, ty3, ty4, ty9, ty34, ty35, ty37, ty39, ty51, ty52, hw, k1, k2, hl1, hl2]
    generalize hA0 : A.new _ = A0
    have hE0 : Ext A A0 := by rw [← hA0]; exact Ext.new _ _
    have hg0 : A0.get A.size = .cells [s1.v, s2.v, .string x.2.2] 3 := by rw [← hA0]; exact AH.get_new_self _ _
    have hz0 : A0.size = A.size + 1 := by rw [← hA0]; exact AH.size_new _ _
    refine Wp.loopC (fun n e A' => Ext A0 A' ∧ e 1 = s.v ∧ e 2 = .int .i64 w ∧ e 3 = .pointer (some ⟨A.size, 0, none⟩) ∧ ∃ i : Nat, i ≤ x.2.1.length ∧ i ≤ m.length ∧ n = x.2.1.length - i ∧ e 7 = .int .i64 i ∧ fitGo w x.2.1 m = i + fitGo w (x.2.1.drop i) (m.drop i)) (x.2.1.length - 0) ?_ ?_
    · simp (maxSteps := 2000000) (disch := first | omega | (simp only [AH.size_new, AH.size_put] <;> omega) | fail) only [amV, amH, amQ, amL, amN Try.prog, amS, seval, reduceCtorEq, ty3, ty4, ty9, ty34, ty35, ty37, ty39, ty51, ty52]
      exact ⟨Ext.refl _, 0, by omega, by omega, rfl, rfl, by simp⟩
    · rintro n e A' ⟨hE, g1, g2, g3, i, hi, hi2, rfl, g7, hgo⟩
      have hz := hE.size
      have hb : A'.get A.size = .cells [s1.v, s2.v, .string x.2.2] 3 := (hE.get _ (by omega)).trans hg0
      simp (maxSteps := 2000000) (disch := first | omega | (simp only [AH.size_new, AH.size_put] <;> omega) | fail) only [amX Try.prog ro X, amR Try.prog ro X, amS, seval, reduceCtorEq, ty3, ty4, ty9, ty34, ty35, ty37, ty39, ty51, ty52]
      refine WpH (A'.size) [33] (by kernel_rfl) (.inl (by kernel_rfl)) ?_
      by_cases d2 : (i : Int) < m.length
      · have c2 : i < m.length := by omega
        by_cases d1 : (i : Int) < x.2.1.length
        · have c1 : i < x.2.1.length := by omega
          obtain ⟨n1, b1, i1, r1, q1, q2⟩ := (h2.ext (hE0.trans hE)).glance c1
          obtain ⟨n2, b2, i2, r2, q3, q4⟩ := seen_at (hs.ext (hE0.trans hE)) c2
          obtain ⟨f1, f2, f3⟩ := row3 r2
          rw [List.drop_eq_getElem_cons c1, List.drop_eq_getElem_cons c2, fitGo] at hgo
          simp (maxSteps := 2000000) (disch := first | omega | (simp only [AH.size_new, AH.size_put] <;> omega) | fail) only [amX Try.prog ro X, amR Try.prog ro X, amS, seval, reduceCtorEq, ty3, ty4, ty9, ty34, ty35, ty37, ty39, ty51, ty52, g1, g2, g3, g7, hb, hl1, hl2, n1, n2, r1, f1, f2, f3, d1, d2]
          refine (Sum.spec_a _ (by first | omega | (simp only [AH.size_new, AH.size_put] <;> omega)) m[i].2.2 w q4).mono ?_
          rintro r A2 ⟨rfl, hE2⟩
          have z2 := hE2.size
          have heq := eq_sbs (P := Try.prog) (Try.underlying51) (by decide) (by decide) (by decide) (by simp only [ty9]) (by simp only [ty4]) (by simp only [ty9]) (by kernel_rfl) x.2.1[i] (m[i].1, m[i].2.1, sumS m[i].2.2 w)
          simp only at heq
          by_cases p : x.2.1[i].1 = m[i].1 ∧ x.2.1[i].2.1 = m[i].2.1 ∧ x.2.1[i].2.2 = sumS m[i].2.2 w
          · rw [if_pos p] at hgo
            obtain ⟨p1, p2, p3⟩ := p
            rw [decide_eq_true (by exact ⟨p1, p2, p3⟩)] at heq
            simp (maxSteps := 2000000) (disch := first | omega | (simp only [AH.size_new, AH.size_put] <;> omega) | fail) only [amX Try.prog ro X, amR Try.prog ro X, amS, seval, reduceCtorEq, ty3, ty4, ty9, ty34, ty35, ty37, ty39, ty51, ty52, g1, g2, g3, g7, heq]
            refine ⟨fun b hb => hE2.get b (by omega), ?_⟩
            exact ⟨x.2.1.length - (i + 1), by omega, (by ((repeat' (first | exact Ext.refl _ | assumption | refine Ext.trans ?_ (Ext.new _ _) | refine Ext.put ?_ ?_ _ | refine Ext.trans ?_ (by assumption))) <;> (first | omega | (simp only [AH.size_new, AH.size_put] <;> omega)))), i + 1, by omega, by omega, rfl, by simp, by rw [hgo]; omega⟩
          · rw [if_neg p] at hgo
            rw [decide_eq_false p] at heq
            simp (maxSteps := 2000000) (disch := first | omega | (simp only [AH.size_new, AH.size_put] <;> omega) | fail) only [amX Try.prog ro X, amR Try.prog ro X, amS, seval, reduceCtorEq, ty3, ty4, ty9, ty34, ty35, ty37, ty39, ty51, ty52, g1, g2, g3, g7, heq]
            refine ⟨fun b hb => hE2.get b (by omega), ?_⟩
            exact ⟨by rw [hgo]; rfl, (by ((repeat' (first | exact Ext.refl _ | assumption | refine Ext.trans ?_ (Ext.new _ _) | refine Ext.put ?_ ?_ _ | refine Ext.trans ?_ (by assumption))) <;> (first | omega | (simp only [AH.size_new, AH.size_put] <;> omega))))⟩
        · have e1 : i = x.2.1.length := by omega
          rw [e1, List.drop_length, fitGo_nil1] at hgo
          simp (maxSteps := 2000000) (disch := first | omega | (simp only [AH.size_new, AH.size_put] <;> omega) | fail) only [amX Try.prog ro X, amR Try.prog ro X, amS, seval, reduceCtorEq, ty3, ty4, ty9, ty34, ty35, ty37, ty39, ty51, ty52, g1, g2, g3, g7, hb, hl1, hl2, d1, d2]
          exact ⟨by rw [hgo, e1]; simp, (by ((repeat' (first | exact Ext.refl _ | assumption | refine Ext.trans ?_ (Ext.new _ _) | refine Ext.put ?_ ?_ _ | refine Ext.trans ?_ (by assumption))) <;> (first | omega | (simp only [AH.size_new, AH.size_put] <;> omega))))⟩
      · have e2 : i = m.length := by omega
        rw [e2, List.drop_length, fitGo_nil2] at hgo
        simp (maxSteps := 2000000) (disch := first | omega | (simp only [AH.size_new, AH.size_put] <;> omega) | fail) only [amX Try.prog ro X, amR Try.prog ro X, amS, seval, reduceCtorEq, ty3, ty4, ty9, ty34, ty35, ty37, ty39, ty51, ty52, g1, g2, g3, g7, hb, hl1, hl2, d2]
        exact ⟨by rw [hgo, e2]; simp, (by ((repeat' (first | exact Ext.refl _ | assumption | refine Ext.trans ?_ (Ext.new _ _) | refine Ext.put ?_ ?_ _ | refine Ext.trans ?_ (by assumption))) <;> (first | omega | (simp only [AH.size_new, AH.size_put] <;> omega))))⟩
  · simp (maxSteps := 2000000) (disch := first | omega | (simp only [AH.size_new, AH.size_put] <;> omega) | fail) only [amR Try.prog ro X, amS, seval, reduceCtorEq, ty3, ty4, ty9, ty34, ty35, ty37, ty39, ty51, ty52, hw]
    exact ⟨by rw [fitR_0]; intro h; exact hw h.1, (by ((repeat' (first | exact Ext.refl _ | assumption | refine Ext.trans ?_ (Ext.new _ _) | refine Ext.put ?_ ?_ _ | refine Ext.trans ?_ (by assumption))) <;> (first | omega | (simp only [AH.size_new, AH.size_put] <;> omega))))⟩
end Go.Proofs.Ytcdnlghlbljopaa.Amu.Fits
