/- Results read from their form. -/
import Derived.Test.YtmelgjblkmbhjaaDoorAmRun
import Derived.Test.YtmelgjblkmbhjaaDoorAmuLawA
import Derived.Test.YtmelgjblkmbhjaaDoorProg
namespace Go.Proofs.YtmelgjblkmbhjaaDoor.Amu.Vread
open Go Go.AM Go.Proofs
set_option linter.unusedVariables false
set_option linter.unusedSimpArgs false
theorem ty3 : tKind Tryd.prog 3 = some (.int .i64) ∧ tSize Tryd.prog 3 = some 1 ∧ tAgg Tryd.prog 3 = some false ∧ tZero Tryd.prog 3 = some (.int .i64 0) := ⟨by kernel_rfl, by kernel_rfl, by kernel_rfl, by kernel_rfl⟩
theorem ty5 : tKind Tryd.prog 5 = some (.int .u8) ∧ tSize Tryd.prog 5 = some 1 ∧ tAgg Tryd.prog 5 = some false ∧ tZero Tryd.prog 5 = some (.int .u8 0) := ⟨by kernel_rfl, by kernel_rfl, by kernel_rfl, by kernel_rfl⟩
theorem ty9 : tKind Tryd.prog 9 = some (.str) ∧ tSize Tryd.prog 9 = some 1 ∧ tAgg Tryd.prog 9 = some false ∧ tZero Tryd.prog 9 = some (.string ByteArray.empty) := ⟨by kernel_rfl, by kernel_rfl, by kernel_rfl, by kernel_rfl⟩
theorem ty43 : tKind Tryd.prog 43 = some (.slice) ∧ tSize Tryd.prog 43 = some 1 ∧ tAgg Tryd.prog 43 = some false ∧ tZero Tryd.prog 43 = some (.slice none 0 0) ∧ tElem Tryd.prog 43 = some 9 ∧ tElemSize Tryd.prog 43 = some 1 ∧ tBytes Tryd.prog 43 = false := ⟨by kernel_rfl, by kernel_rfl, by kernel_rfl, by kernel_rfl, by kernel_rfl, by kernel_rfl, by kernel_rfl⟩
theorem ty91 : tKind Tryd.prog 91 = some (.struct) ∧ tSize Tryd.prog 91 = some 3 ∧ tAgg Tryd.prog 91 = some true ∧ tZero Tryd.prog 91 = some (.agg #[.int .i64 0, .string ByteArray.empty, .slice none 0 0]) ∧ tField Tryd.prog 91 0 = some (0, 3) ∧ tField Tryd.prog 91 1 = some (1, 9) ∧ tField Tryd.prog 91 2 = some (2, 43) ∧ tPlaces Tryd.prog 91 = some [(0, 1), (1, 1), (2, 1)] := ⟨by kernel_rfl, by kernel_rfl, by kernel_rfl, by kernel_rfl, by kernel_rfl, by kernel_rfl, by kernel_rfl, by kernel_rfl⟩

variable {ro : Nat} {X : FuncId → List Value → AH → ARes → AH → Prop}
set_option maxRecDepth 10000
def readV : Option (Int × ByteArray) → Value
  | none => .tuple #[.agg #[.int .i64 0, .string ⟨#[]⟩, Sl.nil.v], .bool false]
  | some x => .tuple #[.agg #[.int .i64 x.1, .string x.2, Sl.nil.v], .bool true]
theorem impl_a (A : AH) (hro : ro ≤ A.size) (s : ByteArray) (hs : s.size < 4611686018427387904) :
    ACalls Tryd.prog ro X 179 [.string s] A (fun r A' => r = .ret (readV (readT s)) ∧ Ext A A') := by
  refine ACalls.enterQ (rs := [.cell 2 91, .tmp 3]) Tryd.func179 rfl (by kernel_rfl) rfl ?_
  have hb0 := (bget s 0).toNat_lt
  by_cases h1 : (s.size : Int) < 2
  · have hr : formIll s := .inl h1
    have hT : readT s = none := if_pos hr
    simp (maxSteps := 2000000) (disch := first | omega | (simp only [AH.size_new, AH.size_put] <;> omega) | fail) only [amR Tryd.prog ro X, amS, seval, reduceCtorEq, ty3, ty5, ty9, ty43, ty91, h1, hT, readV]
    exact ⟨rfl, (Ext.new _ _).put (Nat.le_refl _) _⟩
  by_cases h2 : ((bget s 0).toNat : Int) < 48
  · have hr : formIll s := .inr (.inl h2)
    have hT : readT s = none := if_pos hr
    simp (maxSteps := 2000000) (disch := first | omega | (simp only [AH.size_new, AH.size_put] <;> omega) | fail) only [amR Tryd.prog ro X, amS, seval, reduceCtorEq, ty3, ty5, ty9, ty43, ty91, h1, h2, hT, readV]
    exact ⟨rfl, (Ext.new _ _).put (Nat.le_refl _) _⟩
  by_cases h3 : (53 : Int) < (bget s 0).toNat
  · have hr : formIll s := .inr (.inr (.inl h3))
    have hT : readT s = none := if_pos hr
    simp (maxSteps := 2000000) (disch := first | omega | (simp only [AH.size_new, AH.size_put] <;> omega) | fail) only [amR Tryd.prog ro X, amS, seval, reduceCtorEq, ty3, ty5, ty9, ty43, ty91, h1, h2, h3, hT, readV]
    exact ⟨rfl, (Ext.new _ _).put (Nat.le_refl _) _⟩
  by_cases h4 : ((bget s 1).toNat : Int) = 58
  · by_cases h5 : (2000 : Int) < s.size - 2
    · have hr : formIll s := .inr (.inr (.inr (.inr h5)))
      have hT : readT s = none := if_pos hr
      simp (maxSteps := 2000000) (disch := first | omega | (simp only [AH.size_new, AH.size_put] <;> omega) | fail) only [amR Tryd.prog ro X, amS, seval, reduceCtorEq, ty3, ty5, ty9, ty43, ty91, h1, h2, h3, h4, h5, hT, readV]
      exact ⟨rfl, (Ext.new _ _).put (Nat.le_refl _) _⟩
    · have hr : ¬ formIll s := by
        rintro (h | h | h | h | h)
        · exact h1 h
        · exact h2 h
        · exact h3 h
        · exact h h4
        · exact h5 h
      have hT : readT s = some (((bget s 0).toNat : Int) - 48, s.extract 2 s.size) := if_neg hr
      simp (maxSteps := 2000000) (disch := first | omega | (simp only [AH.size_new, AH.size_put] <;> omega) | fail) only [amR Tryd.prog ro X, amS, seval, reduceCtorEq, ty3, ty5, ty9, ty43, ty91, h1, h2, h3, h4, h5, hT, readV]
      refine Wp.runG [] (by kernel_rfl) (.inl (by kernel_rfl)) ?_
      simp (maxSteps := 2000000) (disch := first | omega | (simp only [AH.size_new, AH.size_put] <;> omega) | fail) only [amR Tryd.prog ro X, amS, seval, reduceCtorEq, ty3, ty5, ty9, ty43, ty91, h1, h2, h3, h4, h5, hT, readV]
      exact (Ext.new _ _).put (Nat.le_refl _) _
  · have hr : formIll s := .inr (.inr (.inr (.inl h4)))
    have hT : readT s = none := if_pos hr
    simp (maxSteps := 2000000) (disch := first | omega | (simp only [AH.size_new, AH.size_put] <;> omega) | fail) only [amR Tryd.prog ro X, amS, seval, reduceCtorEq, ty3, ty5, ty9, ty43, ty91, h1, h2, h3, bne, beq_eq_false_iff_ne.2 h4, hT, readV]
    exact ⟨rfl, (Ext.new _ _).put (Nat.le_refl _) _⟩
theorem spec_a (A : AH) (hro : ro ≤ A.size) (s : ByteArray) (hs : s.size < 4611686018427387904) :
    ACalls Tryd.prog ro X 221 [.string s] A (fun r A' => r = .ret (readV (readT s)) ∧ Ext A A') := by
  refine ACalls.enterQ (rs := [.cell 2 91, .tmp 3]) Tryd.func221 rfl (by kernel_rfl) rfl ?_
  have hb0 := (bget s 0).toNat_lt
  by_cases h1 : (s.size : Int) < 2
  · have hr : formIll s := .inl h1
    have hT : readT s = none := if_pos hr
    simp (maxSteps := 2000000) (disch := first | omega | (simp only [AH.size_new, AH.size_put] <;> omega) | fail) only [amR Tryd.prog ro X, amS, seval, reduceCtorEq, ty3, ty5, ty9, ty43, ty91, h1, hT, readV]
    exact ⟨rfl, (Ext.new _ _).put (Nat.le_refl _) _⟩
  by_cases h2 : ((bget s 0).toNat : Int) < 48
  · have hr : formIll s := .inr (.inl h2)
    have hT : readT s = none := if_pos hr
    simp (maxSteps := 2000000) (disch := first | omega | (simp only [AH.size_new, AH.size_put] <;> omega) | fail) only [amR Tryd.prog ro X, amS, seval, reduceCtorEq, ty3, ty5, ty9, ty43, ty91, h1, h2, hT, readV]
    exact ⟨rfl, (Ext.new _ _).put (Nat.le_refl _) _⟩
  by_cases h3 : (53 : Int) < (bget s 0).toNat
  · have hr : formIll s := .inr (.inr (.inl h3))
    have hT : readT s = none := if_pos hr
    simp (maxSteps := 2000000) (disch := first | omega | (simp only [AH.size_new, AH.size_put] <;> omega) | fail) only [amR Tryd.prog ro X, amS, seval, reduceCtorEq, ty3, ty5, ty9, ty43, ty91, h1, h2, h3, hT, readV]
    exact ⟨rfl, (Ext.new _ _).put (Nat.le_refl _) _⟩
  by_cases h4 : ((bget s 1).toNat : Int) = 58
  · by_cases h5 : (2000 : Int) < s.size - 2
    · have hr : formIll s := .inr (.inr (.inr (.inr h5)))
      have hT : readT s = none := if_pos hr
      simp (maxSteps := 2000000) (disch := first | omega | (simp only [AH.size_new, AH.size_put] <;> omega) | fail) only [amR Tryd.prog ro X, amS, seval, reduceCtorEq, ty3, ty5, ty9, ty43, ty91, h1, h2, h3, h4, h5, hT, readV]
      exact ⟨rfl, (Ext.new _ _).put (Nat.le_refl _) _⟩
    · have hr : ¬ formIll s := by
        rintro (h | h | h | h | h)
        · exact h1 h
        · exact h2 h
        · exact h3 h
        · exact h h4
        · exact h5 h
      have hT : readT s = some (((bget s 0).toNat : Int) - 48, s.extract 2 s.size) := if_neg hr
      simp (maxSteps := 2000000) (disch := first | omega | (simp only [AH.size_new, AH.size_put] <;> omega) | fail) only [amR Tryd.prog ro X, amS, seval, reduceCtorEq, ty3, ty5, ty9, ty43, ty91, h1, h2, h3, h4, h5, hT, readV]
      refine Wp.runG [] (by kernel_rfl) (.inl (by kernel_rfl)) ?_
      simp (maxSteps := 2000000) (disch := first | omega | (simp only [AH.size_new, AH.size_put] <;> omega) | fail) only [amR Tryd.prog ro X, amS, seval, reduceCtorEq, ty3, ty5, ty9, ty43, ty91, h1, h2, h3, h4, h5, hT, readV]
      exact (Ext.new _ _).put (Nat.le_refl _) _
  · have hr : formIll s := .inr (.inr (.inr (.inl h4)))
    have hT : readT s = none := if_pos hr
    simp (maxSteps := 2000000) (disch := first | omega | (simp only [AH.size_new, AH.size_put] <;> omega) | fail) only [amR Tryd.prog ro X, amS, seval, reduceCtorEq, ty3, ty5, ty9, ty43, ty91, h1, h2, h3, bne, beq_eq_false_iff_ne.2 h4, hT, readV]
    exact ⟨rfl, (Ext.new _ _).put (Nat.le_refl _) _⟩
end Go.Proofs.YtmelgjblkmbhjaaDoor.Amu.Vread
