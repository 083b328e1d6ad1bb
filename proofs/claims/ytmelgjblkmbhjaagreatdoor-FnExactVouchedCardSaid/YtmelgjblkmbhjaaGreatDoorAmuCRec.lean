/- Copies of records. -/
import Derived.Test.YtmelgjblkmbhjaaGreatDoorAmRun
import Derived.Test.YtmelgjblkmbhjaaGreatDoorAmuCopy
namespace Go.Proofs.YtmelgjblkmbhjaaGreatDoor.Amu.CRec
open Go Go.AM Go.Proofs
set_option linter.unusedVariables false
set_option linter.unusedSimpArgs false
theorem ty9 : tKind Tryz.prog 9 = some (.str) ∧ tSize Tryz.prog 9 = some 1 ∧ tAgg Tryz.prog 9 = some false ∧ tZero Tryz.prog 9 = some (.string ByteArray.empty) := ⟨by kernel_rfl, by kernel_rfl, by kernel_rfl, by kernel_rfl⟩
theorem ty56 : tKind Tryz.prog 56 = some (.slice) ∧ tSize Tryz.prog 56 = some 1 ∧ tAgg Tryz.prog 56 = some false ∧ tZero Tryz.prog 56 = some (.slice none 0 0) ∧ tElem Tryz.prog 56 = some 106 ∧ tElemSize Tryz.prog 56 = some 3 ∧ tBytes Tryz.prog 56 = false := ⟨by kernel_rfl, by kernel_rfl, by kernel_rfl, by kernel_rfl, by kernel_rfl, by kernel_rfl, by kernel_rfl⟩
theorem ty58 : tKind Tryz.prog 58 = some (.struct) ∧ tSize Tryz.prog 58 = some 1 ∧ tAgg Tryz.prog 58 = some true ∧ tZero Tryz.prog 58 = some (.agg #[.slice none 0 0]) ∧ tField Tryz.prog 58 0 = some (0, 56) ∧ tPlaces Tryz.prog 58 = some [(0, 1)] := ⟨by kernel_rfl, by kernel_rfl, by kernel_rfl, by kernel_rfl, by kernel_rfl, by kernel_rfl⟩
theorem ty59 : tKind Tryz.prog 59 = some (.slice) ∧ tSize Tryz.prog 59 = some 1 ∧ tAgg Tryz.prog 59 = some false ∧ tZero Tryz.prog 59 = some (.slice none 0 0) ∧ tElem Tryz.prog 59 = some 110 ∧ tElemSize Tryz.prog 59 = some 3 ∧ tBytes Tryz.prog 59 = false := ⟨by kernel_rfl, by kernel_rfl, by kernel_rfl, by kernel_rfl, by kernel_rfl, by kernel_rfl, by kernel_rfl⟩
theorem ty61 : tKind Tryz.prog 61 = some (.struct) ∧ tSize Tryz.prog 61 = some 3 ∧ tAgg Tryz.prog 61 = some true ∧ tZero Tryz.prog 61 = some (.agg #[.slice none 0 0, .slice none 0 0, .string ByteArray.empty]) ∧ tField Tryz.prog 61 0 = some (0, 58) ∧ tField Tryz.prog 61 1 = some (1, 59) ∧ tField Tryz.prog 61 2 = some (2, 9) ∧ tPlaces Tryz.prog 61 = some [(0, 1), (1, 1), (2, 1)] := ⟨by kernel_rfl, by kernel_rfl, by kernel_rfl, by kernel_rfl, by kernel_rfl, by kernel_rfl, by kernel_rfl, by kernel_rfl⟩
theorem ty110 : tKind Tryz.prog 110 = some (.struct) ∧ tSize Tryz.prog 110 = some 3 ∧ tAgg Tryz.prog 110 = some true ∧ tZero Tryz.prog 110 = some (.agg #[.string ByteArray.empty, .bool false, .string ByteArray.empty]) ∧ tField Tryz.prog 110 0 = some (0, 9) ∧ tField Tryz.prog 110 1 = some (1, 4) ∧ tField Tryz.prog 110 2 = some (2, 9) ∧ tPlaces Tryz.prog 110 = some [(0, 1), (1, 1), (2, 1)] := ⟨by kernel_rfl, by kernel_rfl, by kernel_rfl, by kernel_rfl, by kernel_rfl, by kernel_rfl, by kernel_rfl, by kernel_rfl⟩

variable {ro : Nat} {X : FuncId → List Value → AH → ARes → AH → Prop}
set_option maxRecDepth 10000
theorem impl.copyRecord_a (A : AH) (hro : ro ≤ A.size) (s1 s2 : Sl) (x : TRecord) (F1 F2 : List Nat) (h1 : SlR A s1 x.1 F1) (h2 : SlR A s2 x.2.1 F2) (hl1 : x.1.length < 4294967296) (hl2 : x.2.1.length < 4294967296) :
    ACalls Tryz.prog ro X 29 [.agg #[s1.v, s2.v, .string x.2.2]] A (fun r A' => ∃ t1 t2 G1 G2, r = .ret (.agg #[t1.v, t2.v, .string x.2.2]) ∧ SlR A' t1 x.1 G1 ∧ SlR A' t2 x.2.1 G2 ∧ Fresh A (G1 ++ G2) A' ∧ Ext A A') := by
  refine ACalls.enterQ (rs := [.cell 2 61]) Tryz.func29 rfl (by kernel_rfl) rfl ?_
  simp (maxSteps := 2000000) (disch := first | omega | (simp only [AH.size_new, AH.size_put] <;> omega) | fail) only [amR Tryz.prog ro X, amS, seval, reduceCtorEq, ty9, ty56, ty58, ty59, ty61, ty110]
  refine WpH (A.size + 1 + 1) [2, 6] (by kernel_rfl) (.inr (by intro v e A h; simp only [amK, amQ, thenQ, blockQ, endQ, reduceCtorEq, false_and, exists_false] at h)) ?_
  simp (maxSteps := 2000000) (disch := first | omega | (simp only [AH.size_new, AH.size_put] <;> omega) | fail) only [amX Tryz.prog ro X, amR Tryz.prog ro X, amS, seval, reduceCtorEq, ty9, ty56, ty58, ty59, ty61, ty110]
  refine (Copy.impl.copyProgram_a _ (by first | omega | (simp only [AH.size_new, AH.size_put] <;> omega)) s1 x.1 F1 (h1.ext (by ((repeat' (first | exact Ext.refl _ | assumption | refine Ext.trans ?_ (Ext.new _ _) | refine Ext.put ?_ ?_ _ | refine Ext.trans ?_ (by assumption))) <;> (first | omega | (simp only [AH.size_new, AH.size_put] <;> omega))))) hl1).mono ?_
  rintro r A3 ⟨t1, G1, rfl, q1, fr1, hE3⟩
  have v3 := hE3.size
  simp only [AH.size_new] at v3
  have u0 := hE3.get A.size (by first | omega | (simp only [AH.size_new, AH.size_put] <;> omega))
  have u1 := hE3.get (A.size + 1) (by first | omega | (simp only [AH.size_new, AH.size_put] <;> omega))
  obtain ⟨t2, A4, hap, hacc, hE4⟩ := (h2.ext (A' := A3) (by ((repeat' (first | exact Ext.refl _ | assumption | refine Ext.trans ?_ (Ext.new _ _) | refine Ext.put ?_ ?_ _ | refine Ext.trans ?_ (by assumption))) <;> (first | omega | (simp only [AH.size_new, AH.size_put] <;> omega))))).copied (P := Tryz.prog) (ro := ro) (t := 59) (fun h => h.nofoot nofoot_Glance) (by simp only [ty59]; rfl) (by first | omega | (simp only [AH.size_new, AH.size_put] <;> omega)) hl2
  rw [show Dat.w TGlance = 3 from rfl] at hap
  have v4 := hE4.size
  have u2 := hE4.get A.size (by first | omega | (simp only [AH.size_new, AH.size_put] <;> omega))
  have u3 := hE4.get (A.size + 1) (by first | omega | (simp only [AH.size_new, AH.size_put] <;> omega))
  simp (maxSteps := 2000000) (disch := first | omega | (simp only [AH.size_new, AH.size_put] <;> omega) | fail) only [amX Tryz.prog ro X, amR Tryz.prog ro X, amS, seval, reduceCtorEq, ty9, ty56, ty58, ty59, ty61, ty110, u0, u1, u2, u3, hap]
  obtain ⟨G2, hG2, fr2⟩ := hacc.fresh (Fresh.nil A3 A4)
  refine ⟨fun b hb => hE3.get b (by first | omega | (simp only [AH.size_new, AH.size_put] <;> omega)), fun b hb => (hE4.get b (by first | omega | (simp only [AH.size_new, AH.size_put] <;> omega))).trans (AH.get_new_other (by omega)).symm, t1, t2, G1, G2, rfl, ?_, ?_, ?_, (by ((repeat' (first | exact Ext.refl _ | assumption | refine Ext.trans ?_ (Ext.new _ _) | refine Ext.put ?_ ?_ _ | refine Ext.trans ?_ (by assumption))) <;> (first | omega | (simp only [AH.size_new, AH.size_put] <;> omega))))⟩
  · exact (q1.ext hE4).extx ((ExtX.refl [A.size + 1] _).put (by simp) _) (fun b hb => by have := fr1.lo b hb; simp only [AH.size_new] at this; simp; omega)
  · exact hG2.extx ((ExtX.refl [A.size + 1] _).put (by simp) _) (fun b hb => by have := fr2.lo b hb; simp; omega)
  · exact (fr1.append fr2 (by first | omega | (simp only [AH.size_new, AH.size_put] <;> omega)) (by omega)).mono (by first | omega | (simp only [AH.size_new, AH.size_put] <;> omega)) (by first | omega | (simp only [AH.size_new, AH.size_put] <;> omega))
theorem spec.l4Record_a (A : AH) (hro : ro ≤ A.size) (s1 s2 : Sl) (x : TRecord) (F1 F2 : List Nat) (h1 : SlR A s1 x.1 F1) (h2 : SlR A s2 x.2.1 F2) (hl1 : x.1.length < 4294967296) (hl2 : x.2.1.length < 4294967296) :
    ACalls Tryz.prog ro X 24 [.agg #[s1.v, s2.v, .string x.2.2]] A (fun r A' => ∃ t1 t2 G1 G2, r = .ret (.agg #[t1.v, t2.v, .string x.2.2]) ∧ SlR A' t1 x.1 G1 ∧ SlR A' t2 x.2.1 G2 ∧ Fresh A (G1 ++ G2) A' ∧ Ext A A') := by
  refine ACalls.enterQ (rs := [.cell 2 61]) Tryz.func24 rfl (by kernel_rfl) rfl ?_
  simp (maxSteps := 2000000) (disch := first | omega | (simp only [AH.size_new, AH.size_put] <;> omega) | fail) only [amR Tryz.prog ro X, amS, seval, reduceCtorEq, ty9, ty56, ty58, ty59, ty61, ty110]
  refine WpH (A.size + 1 + 1) [2, 6] (by kernel_rfl) (.inr (by intro v e A h; simp only [amK, amQ, thenQ, blockQ, endQ, reduceCtorEq, false_and, exists_false] at h)) ?_
  simp (maxSteps := 2000000) (disch := first | omega | (simp only [AH.size_new, AH.size_put] <;> omega) | fail) only [amX Tryz.prog ro X, amR Tryz.prog ro X, amS, seval, reduceCtorEq, ty9, ty56, ty58, ty59, ty61, ty110]
  refine (Copy.spec.l3Program_a _ (by first | omega | (simp only [AH.size_new, AH.size_put] <;> omega)) s1 x.1 F1 (h1.ext (by ((repeat' (first | exact Ext.refl _ | assumption | refine Ext.trans ?_ (Ext.new _ _) | refine Ext.put ?_ ?_ _ | refine Ext.trans ?_ (by assumption))) <;> (first | omega | (simp only [AH.size_new, AH.size_put] <;> omega))))) hl1).mono ?_
  rintro r A3 ⟨t1, G1, rfl, q1, fr1, hE3⟩
  have v3 := hE3.size
  simp only [AH.size_new] at v3
  have u0 := hE3.get A.size (by first | omega | (simp only [AH.size_new, AH.size_put] <;> omega))
  have u1 := hE3.get (A.size + 1) (by first | omega | (simp only [AH.size_new, AH.size_put] <;> omega))
  obtain ⟨t2, A4, hap, hacc, hE4⟩ := (h2.ext (A' := A3) (by ((repeat' (first | exact Ext.refl _ | assumption | refine Ext.trans ?_ (Ext.new _ _) | refine Ext.put ?_ ?_ _ | refine Ext.trans ?_ (by assumption))) <;> (first | omega | (simp only [AH.size_new, AH.size_put] <;> omega))))).copied (P := Tryz.prog) (ro := ro) (t := 59) (fun h => h.nofoot nofoot_Glance) (by simp only [ty59]; rfl) (by first | omega | (simp only [AH.size_new, AH.size_put] <;> omega)) hl2
  rw [show Dat.w TGlance = 3 from rfl] at hap
  have v4 := hE4.size
  have u2 := hE4.get A.size (by first | omega | (simp only [AH.size_new, AH.size_put] <;> omega))
  have u3 := hE4.get (A.size + 1) (by first | omega | (simp only [AH.size_new, AH.size_put] <;> omega))
  simp (maxSteps := 2000000) (disch := first | omega | (simp only [AH.size_new, AH.size_put] <;> omega) | fail) only [amX Tryz.prog ro X, amR Tryz.prog ro X, amS, seval, reduceCtorEq, ty9, ty56, ty58, ty59, ty61, ty110, u0, u1, u2, u3, hap]
  obtain ⟨G2, hG2, fr2⟩ := hacc.fresh (Fresh.nil A3 A4)
  refine ⟨fun b hb => hE3.get b (by first | omega | (simp only [AH.size_new, AH.size_put] <;> omega)), fun b hb => (hE4.get b (by first | omega | (simp only [AH.size_new, AH.size_put] <;> omega))).trans (AH.get_new_other (by omega)).symm, t1, t2, G1, G2, rfl, ?_, ?_, ?_, (by ((repeat' (first | exact Ext.refl _ | assumption | refine Ext.trans ?_ (Ext.new _ _) | refine Ext.put ?_ ?_ _ | refine Ext.trans ?_ (by assumption))) <;> (first | omega | (simp only [AH.size_new, AH.size_put] <;> omega))))⟩
  · exact (q1.ext hE4).extx ((ExtX.refl [A.size + 1] _).put (by simp) _) (fun b hb => by have := fr1.lo b hb; simp only [AH.size_new] at this; simp; omega)
  · exact hG2.extx ((ExtX.refl [A.size + 1] _).put (by simp) _) (fun b hb => by have := fr2.lo b hb; simp; omega)
  · exact (fr1.append fr2 (by first | omega | (simp only [AH.size_new, AH.size_put] <;> omega)) (by omega)).mono (by first | omega | (simp only [AH.size_new, AH.size_put] <;> omega)) (by first | omega | (simp only [AH.size_new, AH.size_put] <;> omega))
end Go.Proofs.YtmelgjblkmbhjaaGreatDoor.Amu.CRec
