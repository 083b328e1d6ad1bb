/- Copies of programs. -/
import Derived.Test.YtmelgjblkmbhjaaGreatDoorAmTX
import Derived.Test.YtmelgjblkmbhjaaGreatDoorProg
namespace Go.Proofs.YtmelgjblkmbhjaaGreatDoor.Amu.Copy
open Go Go.AM Go.Proofs
set_option linter.unusedVariables false
set_option linter.unusedSimpArgs false
theorem ty56 : tKind Tryz.prog 56 = some (.slice) ∧ tSize Tryz.prog 56 = some 1 ∧ tAgg Tryz.prog 56 = some false ∧ tZero Tryz.prog 56 = some (.slice none 0 0) ∧ tElem Tryz.prog 56 = some 106 ∧ tElemSize Tryz.prog 56 = some 3 ∧ tBytes Tryz.prog 56 = false := ⟨by kernel_rfl, by kernel_rfl, by kernel_rfl, by kernel_rfl, by kernel_rfl, by kernel_rfl, by kernel_rfl⟩
theorem ty58 : tKind Tryz.prog 58 = some (.struct) ∧ tSize Tryz.prog 58 = some 1 ∧ tAgg Tryz.prog 58 = some true ∧ tZero Tryz.prog 58 = some (.agg #[.slice none 0 0]) ∧ tField Tryz.prog 58 0 = some (0, 56) ∧ tPlaces Tryz.prog 58 = some [(0, 1)] := ⟨by kernel_rfl, by kernel_rfl, by kernel_rfl, by kernel_rfl, by kernel_rfl, by kernel_rfl⟩
theorem ty106 : tKind Tryz.prog 106 = some (.struct) ∧ tSize Tryz.prog 106 = some 3 ∧ tAgg Tryz.prog 106 = some true ∧ tZero Tryz.prog 106 = some (.agg #[.int .i64 0, .string ByteArray.empty, .int .i64 0]) ∧ tField Tryz.prog 106 0 = some (0, 3) ∧ tField Tryz.prog 106 1 = some (1, 9) ∧ tField Tryz.prog 106 2 = some (2, 3) ∧ tPlaces Tryz.prog 106 = some [(0, 1), (1, 1), (2, 1)] := ⟨by kernel_rfl, by kernel_rfl, by kernel_rfl, by kernel_rfl, by kernel_rfl, by kernel_rfl, by kernel_rfl, by kernel_rfl⟩

variable {ro : Nat} {X : FuncId → List Value → AH → ARes → AH → Prop}
set_option maxRecDepth 10000
theorem impl.copyProgram_a (A : AH) (hro : ro ≤ A.size) (s : Sl) (l : List TIns) (F : List Nat) (h : SlR A s l F) (hl : l.length < 4294967296) :
    ACalls Tryz.prog ro X 78 [.agg #[s.v]] A (fun r A' => ∃ t G, r = .ret (.agg #[t.v]) ∧ SlR A' t l G ∧ Fresh A G A' ∧ Ext A A') := by
  refine ACalls.enterQ (rs := [.cell 2 58]) Tryz.func78 rfl (by kernel_rfl) rfl ?_
  have hE : Ext A (((A.new (.cells [s.v] 1)).new (.cells [Sl.nil.v] 1)).new (.cells [] 3)) := ((Ext.new _ _).trans (Ext.new _ _)).trans (Ext.new _ _)
  obtain ⟨vs, G0, hsrc, hr, _⟩ := (h.ext hE).src
  obtain rfl := hr.nofoot nofoot_Ins
  obtain ⟨s', A1, hap, hacc, hg, _⟩ := (Acc.empty (lo := ((A.new (.cells [s.v] 1)).new (.cells [Sl.nil.v] 1)).size) (A := ((A.new (.cells [s.v] 1)).new (.cells [Sl.nil.v] 1)).new (.cells [] 3)) (α := TIns) (A.size + 1 + 1) 0).app (P := Tryz.prog) (ro := ro) (t := 56) (by first | omega | (simp only [AH.size_new, AH.size_put] <;> omega)) (by simp only [ty56]; rfl) hsrc rfl hr (.inr (by simp)) (by simpa using hl) (by simp only [AH.size_new]; omega)
  have hE1 : Ext A A1 := hg.ext hE (by first | omega | (simp only [AH.size_new, AH.size_put] <;> omega))
  have g1 := hg.get (A.size + 1) (by first | omega | (simp only [AH.size_new, AH.size_put] <;> omega)) (.inl (by first | omega | (simp only [AH.size_new, AH.size_put] <;> omega)))
  simp (maxSteps := 2000000) (disch := first | omega | (simp only [AH.size_new, AH.size_put] <;> omega) | fail) only [amR Tryz.prog ro X, amS, seval, reduceCtorEq, ty56, ty58, ty106, hap, g1]
  obtain ⟨G, hS, hF⟩ := hacc.fresh (Fresh.nil _ A1)
  exact ⟨s', G, rfl, hS.extx ((ExtX.refl [A.size + 1] A1).put (by simp) _) (fun b hb => by have := hF.lo b hb; simp only [AH.size_new] at this; simp; omega), hF.mono (by first | omega | (simp only [AH.size_new, AH.size_put] <;> omega)) (by first | omega | (simp only [AH.size_new, AH.size_put] <;> omega)), (by ((repeat' (first | exact Ext.refl _ | assumption | refine Ext.trans ?_ (Ext.new _ _) | refine Ext.put ?_ ?_ _ | refine Ext.trans ?_ (by assumption))) <;> (first | omega | (simp only [AH.size_new, AH.size_put] <;> omega))))⟩
theorem spec.l3Program_a (A : AH) (hro : ro ≤ A.size) (s : Sl) (l : List TIns) (F : List Nat) (h : SlR A s l F) (hl : l.length < 4294967296) :
    ACalls Tryz.prog ro X 69 [.agg #[s.v]] A (fun r A' => ∃ t G, r = .ret (.agg #[t.v]) ∧ SlR A' t l G ∧ Fresh A G A' ∧ Ext A A') := by
  refine ACalls.enterQ (rs := [.cell 2 58]) Tryz.func69 rfl (by kernel_rfl) rfl ?_
  have hE : Ext A (((A.new (.cells [s.v] 1)).new (.cells [Sl.nil.v] 1)).new (.cells [] 3)) := ((Ext.new _ _).trans (Ext.new _ _)).trans (Ext.new _ _)
  obtain ⟨vs, G0, hsrc, hr, _⟩ := (h.ext hE).src
  obtain rfl := hr.nofoot nofoot_Ins
  obtain ⟨s', A1, hap, hacc, hg, _⟩ := (Acc.empty (lo := ((A.new (.cells [s.v] 1)).new (.cells [Sl.nil.v] 1)).size) (A := ((A.new (.cells [s.v] 1)).new (.cells [Sl.nil.v] 1)).new (.cells [] 3)) (α := TIns) (A.size + 1 + 1) 0).app (P := Tryz.prog) (ro := ro) (t := 56) (by first | omega | (simp only [AH.size_new, AH.size_put] <;> omega)) (by simp only [ty56]; rfl) hsrc rfl hr (.inr (by simp)) (by simpa using hl) (by simp only [AH.size_new]; omega)
  have hE1 : Ext A A1 := hg.ext hE (by first | omega | (simp only [AH.size_new, AH.size_put] <;> omega))
  have g1 := hg.get (A.size + 1) (by first | omega | (simp only [AH.size_new, AH.size_put] <;> omega)) (.inl (by first | omega | (simp only [AH.size_new, AH.size_put] <;> omega)))
  simp (maxSteps := 2000000) (disch := first | omega | (simp only [AH.size_new, AH.size_put] <;> omega) | fail) only [amR Tryz.prog ro X, amS, seval, reduceCtorEq, ty56, ty58, ty106, hap, g1]
  obtain ⟨G, hS, hF⟩ := hacc.fresh (Fresh.nil _ A1)
  exact ⟨s', G, rfl, hS.extx ((ExtX.refl [A.size + 1] A1).put (by simp) _) (fun b hb => by have := hF.lo b hb; simp only [AH.size_new] at this; simp; omega), hF.mono (by first | omega | (simp only [AH.size_new, AH.size_put] <;> omega)) (by first | omega | (simp only [AH.size_new, AH.size_put] <;> omega)), (by ((repeat' (first | exact Ext.refl _ | assumption | refine Ext.trans ?_ (Ext.new _ _) | refine Ext.put ?_ ?_ _ | refine Ext.trans ?_ (by assumption))) <;> (first | omega | (simp only [AH.size_new, AH.size_put] <;> omega))))⟩
end Go.Proofs.YtmelgjblkmbhjaaGreatDoor.Amu.Copy
