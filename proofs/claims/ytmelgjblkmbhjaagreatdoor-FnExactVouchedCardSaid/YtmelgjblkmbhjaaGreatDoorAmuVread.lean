/- Results read from their form. -/
import Derived.Test.YtmelgjblkmbhjaaGreatDoorAmRun
import Derived.Test.YtmelgjblkmbhjaaGreatDoorAmuLawA
import Derived.Test.YtmelgjblkmbhjaaGreatDoorProg
namespace Go.Proofs.YtmelgjblkmbhjaaGreatDoor.Amu.Vread
open Go Go.AM Go.Proofs
set_option linter.unusedVariables false
set_option linter.unusedSimpArgs false
theorem ty3 : tKind Tryz.prog 3 = some (.int .i64) ∧ tSize Tryz.prog 3 = some 1 ∧ tAgg Tryz.prog 3 = some false ∧ tZero Tryz.prog 3 = some (.int .i64 0) := ⟨by kernel_rfl, by kernel_rfl, by kernel_rfl, by kernel_rfl⟩
theorem ty5 : tKind Tryz.prog 5 = some (.int .u8) ∧ tSize Tryz.prog 5 = some 1 ∧ tAgg Tryz.prog 5 = some false ∧ tZero Tryz.prog 5 = some (.int .u8 0) := ⟨by kernel_rfl, by kernel_rfl, by kernel_rfl, by kernel_rfl⟩
theorem ty9 : tKind Tryz.prog 9 = some (.str) ∧ tSize Tryz.prog 9 = some 1 ∧ tAgg Tryz.prog 9 = some false ∧ tZero Tryz.prog 9 = some (.string ByteArray.empty) := ⟨by kernel_rfl, by kernel_rfl, by kernel_rfl, by kernel_rfl⟩
theorem ty22 : tKind Tryz.prog 22 = some (.slice) ∧ tSize Tryz.prog 22 = some 1 ∧ tAgg Tryz.prog 22 = some false ∧ tZero Tryz.prog 22 = some (.slice none 0 0) ∧ tElem Tryz.prog 22 = some 9 ∧ tElemSize Tryz.prog 22 = some 1 ∧ tBytes Tryz.prog 22 = false := ⟨by kernel_rfl, by kernel_rfl, by kernel_rfl, by kernel_rfl, by kernel_rfl, by kernel_rfl, by kernel_rfl⟩
theorem ty79 : tKind Tryz.prog 79 = some (.struct) ∧ tSize Tryz.prog 79 = some 3 ∧ tAgg Tryz.prog 79 = some true ∧ tZero Tryz.prog 79 = some (.agg #[.int .i64 0, .string ByteArray.empty, .slice none 0 0]) ∧ tField Tryz.prog 79 0 = some (0, 3) ∧ tField Tryz.prog 79 1 = some (1, 9) ∧ tField Tryz.prog 79 2 = some (2, 22) ∧ tPlaces Tryz.prog 79 = some [(0, 1), (1, 1), (2, 1)] := ⟨by kernel_rfl, by kernel_rfl, by kernel_rfl, by kernel_rfl, by kernel_rfl, by kernel_rfl, by kernel_rfl, by kernel_rfl⟩

variable {ro : Nat} {X : FuncId → List Value → AH → ARes → AH → Prop}
set_option maxRecDepth 10000
def readV : Option (Int × ByteArray) → Value
  | none => .tuple #[.agg #[.int .i64 0, .string ⟨#[]⟩, Sl.nil.v], .bool false]
  | some x => .tuple #[.agg #[.int .i64 x.1, .string x.2, Sl.nil.v], .bool true]
theorem impl_a (A : AH) (hro : ro ≤ A.size) (s : ByteArray) (hs : s.size < 4611686018427387904) :
    ACalls Tryz.prog ro X 76 [.string s] A (fun r A' => r = .ret (readV (readT s)) ∧ Ext A A') := by
  refine ACalls.enterQ (rs := [.cell 2 79, .tmp 3]) Tryz.func76 rfl (by kernel_rfl) rfl ?_
  have hb0 := (bget s 0).toNat_lt
  by_cases h1 : (s.size : Int) < 2
  · have hr : formIll s := .inl h1
    have hT : readT s = none := if_pos hr
    simp (maxSteps := 2000000) (disch := first | omega | (simp only [AH.size_new, AH.size_put] <;> omega) | fail) only [amR Tryz.prog ro X, amS, seval, reduceCtorEq, ty3, ty5, ty9, ty22, ty79, h1, hT, readV]
    exact ⟨rfl, (Ext.new _ _).put (Nat.le_refl _) _⟩
  by_cases h2 : ((bget s 0).toNat : Int) < 48
  · have hr : formIll s := .inr (.inl h2)
    have hT : readT s = none := if_pos hr
    simp (maxSteps := 2000000) (disch := first | omega | (simp only [AH.size_new, AH.size_put] <;> omega) | fail) only [amR Tryz.prog ro X, amS, seval, reduceCtorEq, ty3, ty5, ty9, ty22, ty79, h1, h2, hT, readV]
    exact ⟨rfl, (Ext.new _ _).put (Nat.le_refl _) _⟩
  by_cases h3 : (53 : Int) < (bget s 0).toNat
  · have hr : formIll s := .inr (.inr (.inl h3))
    have hT : readT s = none := if_pos hr
    simp (maxSteps := 2000000) (disch := first | omega | (simp only [AH.size_new, AH.size_put] <;> omega) | fail) only [amR Tryz.prog ro X, amS, seval, reduceCtorEq, ty3, ty5, ty9, ty22, ty79, h1, h2, h3, hT, readV]
    exact ⟨rfl, (Ext.new _ _).put (Nat.le_refl _) _⟩
  by_cases h4 : ((bget s 1).toNat : Int) = 58
  · by_cases h5 : (2000 : Int) < s.size - 2
    · have hr : formIll s := .inr (.inr (.inr (.inr h5)))
      have hT : readT s = none := if_pos hr
      simp (maxSteps := 2000000) (disch := first | omega | (simp only [AH.size_new, AH.size_put] <;> omega) | fail) only [amR Tryz.prog ro X, amS, seval, reduceCtorEq, ty3, ty5, ty9, ty22, ty79, h1, h2, h3, h4, h5, hT, readV]
      exact ⟨rfl, (Ext.new _ _).put (Nat.le_refl _) _⟩
    · have hr : ¬ formIll s := by
        rintro (h | h | h | h | h)
        · exact h1 h
        · exact h2 h
        · exact h3 h
        · exact h h4
        · exact h5 h
      have hT : readT s = some (((bget s 0).toNat : Int) - 48, s.extract 2 s.size) := if_neg hr
      simp (maxSteps := 2000000) (disch := first | omega | (simp only [AH.size_new, AH.size_put] <;> omega) | fail) only [amR Tryz.prog ro X, amS, seval, reduceCtorEq, ty3, ty5, ty9, ty22, ty79, h1, h2, h3, h4, h5, hT, readV]
      refine Wp.runG [] (by kernel_rfl) (.inl (by kernel_rfl)) ?_
      simp (maxSteps := 2000000) (disch := first | omega | (simp only [AH.size_new, AH.size_put] <;> omega) | fail) only [amR Tryz.prog ro X, amS, seval, reduceCtorEq, ty3, ty5, ty9, ty22, ty79, h1, h2, h3, h4, h5, hT, readV]
      exact (Ext.new _ _).put (Nat.le_refl _) _
  · have hr : formIll s := .inr (.inr (.inr (.inl h4)))
    have hT : readT s = none := if_pos hr
    simp (maxSteps := 2000000) (disch := first | omega | (simp only [AH.size_new, AH.size_put] <;> omega) | fail) only [amR Tryz.prog ro X, amS, seval, reduceCtorEq, ty3, ty5, ty9, ty22, ty79, h1, h2, h3, bne, beq_eq_false_iff_ne.2 h4, hT, readV]
    exact ⟨rfl, (Ext.new _ _).put (Nat.le_refl _) _⟩
theorem spec_a (A : AH) (hro : ro ≤ A.size) (s : ByteArray) (hs : s.size < 4611686018427387904) :
    ACalls Tryz.prog ro X 127 [.string s] A (fun r A' => r = .ret (readV (readT s)) ∧ Ext A A') := by
  refine ACalls.enterQ (rs := [.cell 2 79, .tmp 3]) Tryz.func127 rfl (by kernel_rfl) rfl ?_
  have hb0 := (bget s 0).toNat_lt
  by_cases h1 : (s.size : Int) < 2
  · have hr : formIll s := .inl h1
    have hT : readT s = none := if_pos hr
    simp (maxSteps := 2000000) (disch := first | omega | (simp only [AH.size_new, AH.size_put] <;> omega) | fail) only [amR Tryz.prog ro X, amS, seval, reduceCtorEq, ty3, ty5, ty9, ty22, ty79, h1, hT, readV]
    exact ⟨rfl, (Ext.new _ _).put (Nat.le_refl _) _⟩
  by_cases h2 : ((bget s 0).toNat : Int) < 48
  · have hr : formIll s := .inr (.inl h2)
    have hT : readT s = none := if_pos hr
    simp (maxSteps := 2000000) (disch := first | omega | (simp only [AH.size_new, AH.size_put] <;> omega) | fail) only [amR Tryz.prog ro X, amS, seval, reduceCtorEq, ty3, ty5, ty9, ty22, ty79, h1, h2, hT, readV]
    exact ⟨rfl, (Ext.new _ _).put (Nat.le_refl _) _⟩
  by_cases h3 : (53 : Int) < (bget s 0).toNat
  · have hr : formIll s := .inr (.inr (.inl h3))
    have hT : readT s = none := if_pos hr
    simp (maxSteps := 2000000) (disch := first | omega | (simp only [AH.size_new, AH.size_put] <;> omega) | fail) only [amR Tryz.prog ro X, amS, seval, reduceCtorEq, ty3, ty5, ty9, ty22, ty79, h1, h2, h3, hT, readV]
    exact ⟨rfl, (Ext.new _ _).put (Nat.le_refl _) _⟩
  by_cases h4 : ((bget s 1).toNat : Int) = 58
  · by_cases h5 : (2000 : Int) < s.size - 2
    · have hr : formIll s := .inr (.inr (.inr (.inr h5)))
      have hT : readT s = none := if_pos hr
      simp (maxSteps := 2000000) (disch := first | omega | (simp only [AH.size_new, AH.size_put] <;> omega) | fail) only [amR Tryz.prog ro X, amS, seval, reduceCtorEq, ty3, ty5, ty9, ty22, ty79, h1, h2, h3, h4, h5, hT, readV]
      exact ⟨rfl, (Ext.new _ _).put (Nat.le_refl _) _⟩
    · have hr : ¬ formIll s := by
        rintro (h | h | h | h | h)
        · exact h1 h
        · exact h2 h
        · exact h3 h
        · exact h h4
        · exact h5 h
      have hT : readT s = some (((bget s 0).toNat : Int) - 48, s.extract 2 s.size) := if_neg hr
      simp (maxSteps := 2000000) (disch := first | omega | (simp only [AH.size_new, AH.size_put] <;> omega) | fail) only [amR Tryz.prog ro X, amS, seval, reduceCtorEq, ty3, ty5, ty9, ty22, ty79, h1, h2, h3, h4, h5, hT, readV]
      refine Wp.runG [] (by kernel_rfl) (.inl (by kernel_rfl)) ?_
      simp (maxSteps := 2000000) (disch := first | omega | (simp only [AH.size_new, AH.size_put] <;> omega) | fail) only [amR Tryz.prog ro X, amS, seval, reduceCtorEq, ty3, ty5, ty9, ty22, ty79, h1, h2, h3, h4, h5, hT, readV]
      exact (Ext.new _ _).put (Nat.le_refl _) _
  · have hr : formIll s := .inr (.inr (.inr (.inl h4)))
    have hT : readT s = none := if_pos hr
    simp (maxSteps := 2000000) (disch := first | omega | (simp only [AH.size_new, AH.size_put] <;> omega) | fail) only [amR Tryz.prog ro X, amS, seval, reduceCtorEq, ty3, ty5, ty9, ty22, ty79, h1, h2, h3, bne, beq_eq_false_iff_ne.2 h4, hT, readV]
    exact ⟨rfl, (Ext.new _ _).put (Nat.le_refl _) _⟩
end Go.Proofs.YtmelgjblkmbhjaaGreatDoor.Amu.Vread
