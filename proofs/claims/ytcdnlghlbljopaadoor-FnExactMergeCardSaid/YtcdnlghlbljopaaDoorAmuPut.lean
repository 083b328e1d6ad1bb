/- Copies of records and stores; a text put into a store. -/
import Derived.Test.YtcdnlghlbljopaaDoorAmSlice
import Derived.Test.YtcdnlghlbljopaaDoorAmuCopy
import Derived.Test.YtcdnlghlbljopaaDoorAmuPlace
import Derived.Test.YtcdnlghlbljopaaDoorAmuStore
namespace Go.Proofs.YtcdnlghlbljopaaDoor.Amu.Put
open Go Go.AM Go.Proofs
set_option linter.unusedVariables false
set_option linter.unusedSimpArgs false
theorem ty3 : tKind Tryd.prog 3 = some (.int .i64) ∧ tSize Tryd.prog 3 = some 1 ∧ tAgg Tryd.prog 3 = some false ∧ tZero Tryd.prog 3 = some (.int .i64 0) := ⟨by kernel_rfl, by kernel_rfl, by kernel_rfl, by kernel_rfl⟩
theorem ty4 : tKind Tryd.prog 4 = some (.bool) ∧ tSize Tryd.prog 4 = some 1 ∧ tAgg Tryd.prog 4 = some false ∧ tZero Tryd.prog 4 = some (.bool false) := ⟨by kernel_rfl, by kernel_rfl, by kernel_rfl, by kernel_rfl⟩
theorem ty9 : tKind Tryd.prog 9 = some (.str) ∧ tSize Tryd.prog 9 = some 1 ∧ tAgg Tryd.prog 9 = some false ∧ tZero Tryd.prog 9 = some (.string ByteArray.empty) := ⟨by kernel_rfl, by kernel_rfl, by kernel_rfl, by kernel_rfl⟩
theorem ty27 : tKind Tryd.prog 27 = some (.slice) ∧ tSize Tryd.prog 27 = some 1 ∧ tAgg Tryd.prog 27 = some false ∧ tZero Tryd.prog 27 = some (.slice none 0 0) ∧ tElem Tryd.prog 27 = some 109 ∧ tElemSize Tryd.prog 27 = some 3 ∧ tBytes Tryd.prog 27 = false := ⟨by kernel_rfl, by kernel_rfl, by kernel_rfl, by kernel_rfl, by kernel_rfl, by kernel_rfl, by kernel_rfl⟩
theorem ty29 : tKind Tryd.prog 29 = some (.struct) ∧ tSize Tryd.prog 29 = some 1 ∧ tAgg Tryd.prog 29 = some true ∧ tZero Tryd.prog 29 = some (.agg #[.slice none 0 0]) ∧ tField Tryd.prog 29 0 = some (0, 27) ∧ tPlaces Tryd.prog 29 = some [(0, 1)] := ⟨by kernel_rfl, by kernel_rfl, by kernel_rfl, by kernel_rfl, by kernel_rfl, by kernel_rfl⟩
theorem ty47 : tKind Tryd.prog 47 = some (.slice) ∧ tSize Tryd.prog 47 = some 1 ∧ tAgg Tryd.prog 47 = some false ∧ tZero Tryd.prog 47 = some (.slice none 0 0) ∧ tElem Tryd.prog 47 = some 9 ∧ tElemSize Tryd.prog 47 = some 1 ∧ tBytes Tryd.prog 47 = false := ⟨by kernel_rfl, by kernel_rfl, by kernel_rfl, by kernel_rfl, by kernel_rfl, by kernel_rfl, by kernel_rfl⟩
theorem ty53 : tKind Tryd.prog 53 = some (.slice) ∧ tSize Tryd.prog 53 = some 1 ∧ tAgg Tryd.prog 53 = some false ∧ tZero Tryd.prog 53 = some (.slice none 0 0) ∧ tElem Tryd.prog 53 = some 69 ∧ tElemSize Tryd.prog 53 = some 3 ∧ tBytes Tryd.prog 53 = false := ⟨by kernel_rfl, by kernel_rfl, by kernel_rfl, by kernel_rfl, by kernel_rfl, by kernel_rfl, by kernel_rfl⟩
theorem ty55 : tKind Tryd.prog 55 = some (.struct) ∧ tSize Tryd.prog 55 = some 3 ∧ tAgg Tryd.prog 55 = some true ∧ tZero Tryd.prog 55 = some (.agg #[.int .i64 0, .slice none 0 0, .slice none 0 0]) ∧ tField Tryd.prog 55 0 = some (0, 3) ∧ tField Tryd.prog 55 1 = some (1, 47) ∧ tField Tryd.prog 55 2 = some (2, 53) ∧ tPlaces Tryd.prog 55 = some [(0, 1), (1, 1), (2, 1)] := ⟨by kernel_rfl, by kernel_rfl, by kernel_rfl, by kernel_rfl, by kernel_rfl, by kernel_rfl, by kernel_rfl, by kernel_rfl⟩
theorem ty67 : tKind Tryd.prog 67 = some (.slice) ∧ tSize Tryd.prog 67 = some 1 ∧ tAgg Tryd.prog 67 = some false ∧ tZero Tryd.prog 67 = some (.slice none 0 0) ∧ tElem Tryd.prog 67 = some 153 ∧ tElemSize Tryd.prog 67 = some 3 ∧ tBytes Tryd.prog 67 = false := ⟨by kernel_rfl, by kernel_rfl, by kernel_rfl, by kernel_rfl, by kernel_rfl, by kernel_rfl, by kernel_rfl⟩
theorem ty69 : tKind Tryd.prog 69 = some (.struct) ∧ tSize Tryd.prog 69 = some 3 ∧ tAgg Tryd.prog 69 = some true ∧ tZero Tryd.prog 69 = some (.agg #[.slice none 0 0, .slice none 0 0, .string ByteArray.empty]) ∧ tField Tryd.prog 69 0 = some (0, 29) ∧ tField Tryd.prog 69 1 = some (1, 67) ∧ tField Tryd.prog 69 2 = some (2, 9) ∧ tPlaces Tryd.prog 69 = some [(0, 1), (1, 1), (2, 1)] := ⟨by kernel_rfl, by kernel_rfl, by kernel_rfl, by kernel_rfl, by kernel_rfl, by kernel_rfl, by kernel_rfl, by kernel_rfl⟩
theorem ty88 : tKind Tryd.prog 88 = some (.struct) ∧ tSize Tryd.prog 88 = some 6 ∧ tAgg Tryd.prog 88 = some true ∧ tZero Tryd.prog 88 = some (.agg #[.int .i64 0, .int .i64 0, .slice none 0 0, .slice none 0 0, .string ByteArray.empty, .string ByteArray.empty]) ∧ tField Tryd.prog 88 0 = some (0, 3) ∧ tField Tryd.prog 88 1 = some (1, 55) ∧ tField Tryd.prog 88 2 = some (4, 9) ∧ tField Tryd.prog 88 3 = some (5, 9) ∧ tPlaces Tryd.prog 88 = some [(0, 1), (1, 3), (4, 1), (5, 1)] := ⟨by kernel_rfl, by kernel_rfl, by kernel_rfl, by kernel_rfl, by kernel_rfl, by kernel_rfl, by kernel_rfl, by kernel_rfl, by kernel_rfl⟩
theorem ty153 : tKind Tryd.prog 153 = some (.struct) ∧ tSize Tryd.prog 153 = some 3 ∧ tAgg Tryd.prog 153 = some true ∧ tZero Tryd.prog 153 = some (.agg #[.string ByteArray.empty, .bool false, .string ByteArray.empty]) ∧ tField Tryd.prog 153 0 = some (0, 9) ∧ tField Tryd.prog 153 1 = some (1, 4) ∧ tField Tryd.prog 153 2 = some (2, 9) ∧ tPlaces Tryd.prog 153 = some [(0, 1), (1, 1), (2, 1)] := ⟨by kernel_rfl, by kernel_rfl, by kernel_rfl, by kernel_rfl, by kernel_rfl, by kernel_rfl, by kernel_rfl, by kernel_rfl⟩

variable {ro : Nat} {X : FuncId → List Value → AH → ARes → AH → Prop}
set_option maxRecDepth 10000
theorem impl.copyRecord_a (A : AH) (hro : ro ≤ A.size) (s1 s2 : Sl) (x : TRecord) (F1 F2 : List Nat) (h1 : SlR A s1 x.1 F1) (h2 : SlR A s2 x.2.1 F2) (hl1 : x.1.length < 4294967296) (hl2 : x.2.1.length < 4294967296) :
    ACalls Tryd.prog ro X 136 [.agg #[s1.v, s2.v, .string x.2.2]] A (fun r A' => ∃ t1 t2 G1 G2, r = .ret (.agg #[t1.v, t2.v, .string x.2.2]) ∧ SlR A' t1 x.1 G1 ∧ SlR A' t2 x.2.1 G2 ∧ Fresh A (G1 ++ G2) A' ∧ Ext A A') := by
  refine ACalls.enterQ (rs := [.cell 2 69]) Tryd.func136 rfl (by kernel_rfl) rfl ?_
  simp (maxSteps := 2000000) (disch := first | omega | (simp only [AH.size_new, AH.size_put] <;> omega) | fail) only [amR Tryd.prog ro X, amS, seval, reduceCtorEq, ty9, ty27, ty29, ty67, ty69, ty153]
  refine WpH (A.size + 1 + 1) [2, 6] (by kernel_rfl) (.inr (by intro v e A h; simp only [amK, amQ, thenQ, blockQ, endQ, reduceCtorEq, false_and, exists_false] at h)) ?_
  simp (maxSteps := 2000000) (disch := first | omega | (simp only [AH.size_new, AH.size_put] <;> omega) | fail) only [amX Tryd.prog ro X, amR Tryd.prog ro X, amS, seval, reduceCtorEq, ty9, ty27, ty29, ty67, ty69, ty153]
  refine (Copy.impl.copyProgram_a _ (by first | omega | (simp only [AH.size_new, AH.size_put] <;> omega)) s1 x.1 F1 (h1.ext (by ((repeat' (first | exact Ext.refl _ | assumption | refine Ext.trans ?_ (Ext.new _ _) | refine Ext.put ?_ ?_ _ | refine Ext.trans ?_ (by assumption))) <;> (first | omega | (simp only [AH.size_new, AH.size_put] <;> omega))))) hl1).mono ?_
  rintro r A3 ⟨t1, G1, rfl, q1, fr1, hE3⟩
  have v3 := hE3.size
  simp only [AH.size_new] at v3
  have u0 := hE3.get A.size (by first | omega | (simp only [AH.size_new, AH.size_put] <;> omega))
  have u1 := hE3.get (A.size + 1) (by first | omega | (simp only [AH.size_new, AH.size_put] <;> omega))
  obtain ⟨t2, A4, hap, hacc, hE4⟩ := (h2.ext (A' := A3) (by ((repeat' (first | exact Ext.refl _ | assumption | refine Ext.trans ?_ (Ext.new _ _) | refine Ext.put ?_ ?_ _ | refine Ext.trans ?_ (by assumption))) <;> (first | omega | (simp only [AH.size_new, AH.size_put] <;> omega))))).copied (P := Tryd.prog) (ro := ro) (t := 67) (fun h => h.nofoot nofoot_Glance) (by simp only [ty67]; rfl) (by first | omega | (simp only [AH.size_new, AH.size_put] <;> omega)) hl2
  rw [show Dat.w TGlance = 3 from rfl] at hap
  have v4 := hE4.size
  have u2 := hE4.get A.size (by first | omega | (simp only [AH.size_new, AH.size_put] <;> omega))
  have u3 := hE4.get (A.size + 1) (by first | omega | (simp only [AH.size_new, AH.size_put] <;> omega))
  simp (maxSteps := 2000000) (disch := first | omega | (simp only [AH.size_new, AH.size_put] <;> omega) | fail) only [amX Tryd.prog ro X, amR Tryd.prog ro X, amS, seval, reduceCtorEq, ty9, ty27, ty29, ty67, ty69, ty153, u0, u1, u2, u3, hap]
  obtain ⟨G2, hG2, fr2⟩ := hacc.fresh (Fresh.nil A3 A4)
  refine ⟨fun b hb => hE3.get b (by first | omega | (simp only [AH.size_new, AH.size_put] <;> omega)), fun b hb => (hE4.get b (by first | omega | (simp only [AH.size_new, AH.size_put] <;> omega))).trans (AH.get_new_other (by omega)).symm, t1, t2, G1, G2, rfl, ?_, ?_, ?_, (by ((repeat' (first | exact Ext.refl _ | assumption | refine Ext.trans ?_ (Ext.new _ _) | refine Ext.put ?_ ?_ _ | refine Ext.trans ?_ (by assumption))) <;> (first | omega | (simp only [AH.size_new, AH.size_put] <;> omega))))⟩
  · exact (q1.ext hE4).extx ((ExtX.refl [A.size + 1] _).put (by simp) _) (fun b hb => by have := fr1.lo b hb; simp only [AH.size_new] at this; simp; omega)
  · exact hG2.extx ((ExtX.refl [A.size + 1] _).put (by simp) _) (fun b hb => by have := fr2.lo b hb; simp; omega)
  · exact (fr1.append fr2 (by first | omega | (simp only [AH.size_new, AH.size_put] <;> omega)) (by omega)).mono (by first | omega | (simp only [AH.size_new, AH.size_put] <;> omega)) (by first | omega | (simp only [AH.size_new, AH.size_put] <;> omega))
theorem spec.l4Record_a (A : AH) (hro : ro ≤ A.size) (s1 s2 : Sl) (x : TRecord) (F1 F2 : List Nat) (h1 : SlR A s1 x.1 F1) (h2 : SlR A s2 x.2.1 F2) (hl1 : x.1.length < 4294967296) (hl2 : x.2.1.length < 4294967296) :
    ACalls Tryd.prog ro X 134 [.agg #[s1.v, s2.v, .string x.2.2]] A (fun r A' => ∃ t1 t2 G1 G2, r = .ret (.agg #[t1.v, t2.v, .string x.2.2]) ∧ SlR A' t1 x.1 G1 ∧ SlR A' t2 x.2.1 G2 ∧ Fresh A (G1 ++ G2) A' ∧ Ext A A') := by
  refine ACalls.enterQ (rs := [.cell 2 69]) Tryd.func134 rfl (by kernel_rfl) rfl ?_
  simp (maxSteps := 2000000) (disch := first | omega | (simp only [AH.size_new, AH.size_put] <;> omega) | fail) only [amR Tryd.prog ro X, amS, seval, reduceCtorEq, ty9, ty27, ty29, ty67, ty69, ty153]
  refine WpH (A.size + 1 + 1) [2, 6] (by kernel_rfl) (.inr (by intro v e A h; simp only [amK, amQ, thenQ, blockQ, endQ, reduceCtorEq, false_and, exists_false] at h)) ?_
  simp (maxSteps := 2000000) (disch := first | omega | (simp only [AH.size_new, AH.size_put] <;> omega) | fail) only [amX Tryd.prog ro X, amR Tryd.prog ro X, amS, seval, reduceCtorEq, ty9, ty27, ty29, ty67, ty69, ty153]
  refine (Copy.spec.l3Program_a _ (by first | omega | (simp only [AH.size_new, AH.size_put] <;> omega)) s1 x.1 F1 (h1.ext (by ((repeat' (first | exact Ext.refl _ | assumption | refine Ext.trans ?_ (Ext.new _ _) | refine Ext.put ?_ ?_ _ | refine Ext.trans ?_ (by assumption))) <;> (first | omega | (simp only [AH.size_new, AH.size_put] <;> omega))))) hl1).mono ?_
  rintro r A3 ⟨t1, G1, rfl, q1, fr1, hE3⟩
  have v3 := hE3.size
  simp only [AH.size_new] at v3
  have u0 := hE3.get A.size (by first | omega | (simp only [AH.size_new, AH.size_put] <;> omega))
  have u1 := hE3.get (A.size + 1) (by first | omega | (simp only [AH.size_new, AH.size_put] <;> omega))
  obtain ⟨t2, A4, hap, hacc, hE4⟩ := (h2.ext (A' := A3) (by ((repeat' (first | exact Ext.refl _ | assumption | refine Ext.trans ?_ (Ext.new _ _) | refine Ext.put ?_ ?_ _ | refine Ext.trans ?_ (by assumption))) <;> (first | omega | (simp only [AH.size_new, AH.size_put] <;> omega))))).copied (P := Tryd.prog) (ro := ro) (t := 67) (fun h => h.nofoot nofoot_Glance) (by simp only [ty67]; rfl) (by first | omega | (simp only [AH.size_new, AH.size_put] <;> omega)) hl2
  rw [show Dat.w TGlance = 3 from rfl] at hap
  have v4 := hE4.size
  have u2 := hE4.get A.size (by first | omega | (simp only [AH.size_new, AH.size_put] <;> omega))
  have u3 := hE4.get (A.size + 1) (by first | omega | (simp only [AH.size_new, AH.size_put] <;> omega))
  simp (maxSteps := 2000000) (disch := first | omega | (simp only [AH.size_new, AH.size_put] <;> omega) | fail) only [amX Tryd.prog ro X, amR Tryd.prog ro X, amS, seval, reduceCtorEq, ty9, ty27, ty29, ty67, ty69, ty153, u0, u1, u2, u3, hap]
  obtain ⟨G2, hG2, fr2⟩ := hacc.fresh (Fresh.nil A3 A4)
  refine ⟨fun b hb => hE3.get b (by first | omega | (simp only [AH.size_new, AH.size_put] <;> omega)), fun b hb => (hE4.get b (by first | omega | (simp only [AH.size_new, AH.size_put] <;> omega))).trans (AH.get_new_other (by omega)).symm, t1, t2, G1, G2, rfl, ?_, ?_, ?_, (by ((repeat' (first | exact Ext.refl _ | assumption | refine Ext.trans ?_ (Ext.new _ _) | refine Ext.put ?_ ?_ _ | refine Ext.trans ?_ (by assumption))) <;> (first | omega | (simp only [AH.size_new, AH.size_put] <;> omega))))⟩
  · exact (q1.ext hE4).extx ((ExtX.refl [A.size + 1] _).put (by simp) _) (fun b hb => by have := fr1.lo b hb; simp only [AH.size_new] at this; simp; omega)
  · exact hG2.extx ((ExtX.refl [A.size + 1] _).put (by simp) _) (fun b hb => by have := fr2.lo b hb; simp; omega)
  · exact (fr1.append fr2 (by first | omega | (simp only [AH.size_new, AH.size_put] <;> omega)) (by omega)).mono (by first | omega | (simp only [AH.size_new, AH.size_put] <;> omega)) (by first | omega | (simp only [AH.size_new, AH.size_put] <;> omega))
theorem impl.copyStore_acc (A : AH) (hro : ro ≤ A.size) (s1 s2 : Sl) (x : TStore) (F1 F2 : List Nat) (h1 : SlR A s1 x.2.1 F1) (h2 : SlR A s2 x.2.2 F2) (hl1 : x.2.1.length < 4294967296) (hl2' : x.2.2.length < 4294967296) (hp : ∀ r ∈ x.2.2, r.1.length < 4294967296 ∧ r.2.1.length < 4294967296) :
    ACalls Tryd.prog ro X 123 [.agg #[.int .i64 x.1, s1.v, s2.v]] A (fun r A' => ∃ t1 t2 G1 G2 lo, r = .ret (.agg #[.int .i64 x.1, t1.v, t2.v]) ∧ SlR A' t1 x.2.1 G1 ∧ Fresh A G1 A' ∧ A.size ≤ lo ∧ (∀ b ∈ G1, b < lo) ∧ Acc lo A' t2 x.2.2 G2 ∧ (G2.Nodup ∧ ∀ b ∈ G2, lo ≤ b ∧ b < A'.size) ∧ (t2.nl = true ∨ t2.b < A'.size) ∧ lo ≤ A'.size ∧ Ext A A') := by
  refine ACalls.enterQ (rs := [.cell 2 55]) Tryd.func123 rfl (by kernel_rfl) rfl ?_
  have hl2 := h2.len
  obtain ⟨t1, A1, hap, hacc1, hE1⟩ := (h1.ext (A' := (A.new (.cells [.int .i64 x.1, s1.v, s2.v] 3)).new (.cells [.int .i64 0, Sl.nil.v, Sl.nil.v] 3)) (by ((repeat' (first | exact Ext.refl _ | assumption | refine Ext.trans ?_ (Ext.new _ _) | refine Ext.put ?_ ?_ _ | refine Ext.trans ?_ (by assumption))) <;> (first | omega | (simp only [AH.size_new, AH.size_put] <;> omega))))).copied (P := Tryd.prog) (ro := ro) (t := 47) (fun h => h.nofoot nofoot_Str) (by simp only [ty47]; rfl) (by first | omega | (simp only [AH.size_new, AH.size_put] <;> omega)) hl1
  rw [show Dat.w ByteArray = 1 from rfl] at hap
  simp only [AH.size_new] at hap
  have v1 := hE1.size
  simp only [AH.size_new] at v1
  simp (maxSteps := 2000000) (disch := first | omega | (simp only [AH.size_new, AH.size_put] <;> omega) | fail) only [amR Tryd.prog ro X, amS, seval, reduceCtorEq, ty3, ty9, ty29, ty47, ty53, ty55, ty67, ty69]
  refine WpH (A.size + 1 + 1) [5] (by kernel_rfl) (.inl (by kernel_rfl)) ?_
  simp (maxSteps := 2000000) (disch := first | omega | (simp only [AH.size_new, AH.size_put] <;> omega) | fail) only [amX Tryd.prog ro X, amR Tryd.prog ro X, amS, seval, reduceCtorEq, ty3, ty9, ty29, ty47, ty53, ty55, ty67, ty69, hap, hl2]
  refine ⟨fun b hb => (hE1.get b (by first | omega | (simp only [AH.size_new, AH.size_put] <;> omega))).trans (AH.get_new_other (by first | omega | (simp only [AH.size_new, AH.size_put] <;> omega))).symm, ?_⟩
  obtain ⟨G1, hG1, fr1⟩ := hacc1.fresh (Fresh.nil _ A1)
  have u0 := hE1.get A.size (by first | omega | (simp only [AH.size_new, AH.size_put] <;> omega))
  have u1 := hE1.get (A.size + 1) (by first | omega | (simp only [AH.size_new, AH.size_put] <;> omega))
  simp (maxSteps := 2000000) (disch := first | omega | (simp only [AH.size_new, AH.size_put] <;> omega) | fail) only [amR Tryd.prog ro X, amS, seval, reduceCtorEq, ty3, ty9, ty29, ty47, ty53, ty55, ty67, ty69, u0, u1, hl2]
  generalize hA0 : (A1.new _).put A1.size _ = A0
  have hz0 : A0.size = A1.size + 1 := by rw [← hA0]; rfl
  have hE10 : Ext A1 A0 := by rw [← hA0]; exact (by ((repeat' (first | exact Ext.refl _ | assumption | refine Ext.trans ?_ (Ext.new _ _) | refine Ext.put ?_ ?_ _ | refine Ext.trans ?_ (by assumption))) <;> (first | omega | (simp only [AH.size_new, AH.size_put] <;> omega))))
  have hE0 : Ext A A0 := (by ((repeat' (first | exact Ext.refl _ | assumption | refine Ext.trans ?_ (Ext.new _ _) | refine Ext.put ?_ ?_ _ | refine Ext.trans ?_ (by assumption))) <;> (first | omega | (simp only [AH.size_new, AH.size_put] <;> omega))))
  have go0 : A0.get A1.size = .cells [.int .i64 x.1, t1.v, Sl.nil.v] 3 := by rw [← hA0]; exact AH.get_put_self _ _ _
  have gb0 : A0.get A.size = .cells [.int .i64 x.1, s1.v, s2.v] 3 := by rw [hE10.get _ (by first | omega | (simp only [AH.size_new, AH.size_put] <;> omega)), u0, AH.get_new_other (by simp only [AH.size_new]; omega)]; exact AH.get_new_self _ _
  have gr0 : A0.get (A.size + 1) = .cells [.int .i64 0, Sl.nil.v, Sl.nil.v] 3 := by rw [hE10.get _ (by first | omega | (simp only [AH.size_new, AH.size_put] <;> omega)), u1]; exact AH.get_new_self _ _
  refine Wp.loopC (fun k e H => ExtX [A1.size] A0 H ∧ e 1 = .pointer (some ⟨A.size, 0, none⟩) ∧ e 2 = .pointer (some ⟨A.size + 1, 0, none⟩) ∧ e 3 = .pointer (some ⟨A1.size, 0, none⟩) ∧ e 14 = s2.v ∧ e 15 = .int .i64 x.2.2.length ∧
    ∃ i : Nat, i ≤ x.2.2.length ∧ k = x.2.2.length - i ∧ e 16 = .int .i64 i ∧ ∃ u G, Acc A0.size H u (x.2.2.take i) G ∧ Fresh A0 G H ∧ (u.nl = true ∨ u.b < H.size) ∧ H.get A1.size = .cells [.int .i64 x.1, t1.v, u.v] 3) (x.2.2.length - 0) ?_ ?_
  · simp (maxSteps := 2000000) (disch := first | omega | (simp only [AH.size_new, AH.size_put] <;> omega) | fail) only [amV, amH, amQ, amL, amN Tryd.prog, amS, seval, reduceCtorEq, ty3, ty9, ty29, ty47, ty53, ty55, ty67, ty69, hl2]
    exact ⟨ExtX.refl _ _, 0, by omega, rfl, rfl, Sl.nil, [], .nil, Fresh.nil _ _, .inl rfl, go0⟩
  · rintro k e H ⟨hXH, e1, e2, e3, e14, e15, i, hi, rfl, eI, u, G, hacc2, hfr, hub, gO⟩
    have hzH := hXH.size
    have hs2 : SlR H s2 x.2.2 F2 := (h2.ext hE0).extx hXH (fun b hb => by have := h2.bound b hb; simp; omega)
    have gbH := (hXH.get A.size (by omega) (by simp; omega)).trans gb0
    simp (maxSteps := 2000000) (disch := first | omega | (simp only [AH.size_new, AH.size_put] <;> omega) | fail) only [amR Tryd.prog ro X, amS, seval, reduceCtorEq, ty3, ty9, ty29, ty47, ty53, ty55, ty67, ty69, e1, eI, e14, e15, gbH, hl2]
    refine CondB.split (fun h => ?_) (fun h => ?_)
    · have hil : i < x.2.2.length := by simpa using h
      obtain ⟨n1, b1, i1, w1, w2, K1, K2, rr, d1, d2, z1, hK1, hK2⟩ := hs2.record hil
      simp (maxSteps := 2000000) (disch := first | omega | (simp only [AH.size_new, AH.size_put] <;> omega) | fail) only [amR Tryd.prog ro X, amS, seval, reduceCtorEq, ty3, ty9, ty29, ty47, ty53, ty55, ty67, ty69, e1, e2, e3, e14, e15, eI, n1, rr]
      generalize hJ : (H.new _).put H.size _ = J
      have hEJ : Ext H J := by rw [← hJ]; exact (by ((repeat' (first | exact Ext.refl _ | assumption | refine Ext.trans ?_ (Ext.new _ _) | refine Ext.put ?_ ?_ _ | refine Ext.trans ?_ (by assumption))) <;> (first | omega | (simp only [AH.size_new, AH.size_put] <;> omega))))
      have hJz : J.size = H.size + 1 := by rw [← hJ]; rfl
      have gJ : J.get H.size = .cells [w1.v, w2.v, .string x.2.2[i].2.2] 3 := by rw [← hJ]; exact AH.get_put_self _ _ _
      have gJO := (hEJ.get A1.size (by omega)).trans gO
      refine WpH (J.size) [3] (by kernel_rfl) (.inl (by kernel_rfl)) ?_
      simp (maxSteps := 2000000) (disch := first | omega | (simp only [AH.size_new, AH.size_put] <;> omega) | fail) only [amX Tryd.prog ro X, amR Tryd.prog ro X, amS, seval, reduceCtorEq, ty3, ty9, ty29, ty47, ty53, ty55, ty67, ty69, e1, e2, e3, e14, e15, eI, gJ, gJO]
      refine (impl.copyRecord_a _ (by first | omega | (simp only [AH.size_new, AH.size_put] <;> omega)) w1 w2 x.2.2[i] K1 K2 (d1.ext hEJ) (d2.ext hEJ) (hp _ (List.getElem_mem hil)).1 (hp _ (List.getElem_mem hil)).2).mono ?_
      rintro r A3 ⟨t3, t4, G3, G4, rfl, q3, q4, fr3, hE3⟩
      have v3 := hE3.size
      obtain ⟨u2, A8, hap2, hs', hg, hz8, _⟩ := ((hacc2.ext hEJ).ext hE3).lit (P := Tryd.prog) (ro := ro) (t := 53) (n := 1) (vs := [t3.v, t4.v, .string x.2.2[i].2.2]) (xs := [x.2.2[i]]) (Gx := G3 ++ G4) (by omega) (by simp only [ty53]; rfl) rfl (Reps.one (rep_Record.2 ⟨t3, t4, G3, G4, rfl, rfl, q3, q4, by show x.2.2[i].2.2.size < _; unfold BIG; omega⟩)) (hub.imp id fun h hm => by have := fr3.lo _ hm; omega) (by simp; omega) (by omega)
      rw [show Dat.w TRecord = 3 from rfl] at hap2
      have gA3 := (hE3.get A1.size (by omega)).trans gJO
      have gA8 := (hg.get A1.size (by omega) (.inl (by omega))).trans gA3
      simp (maxSteps := 2000000) (disch := first | omega | (simp only [AH.size_new, AH.size_put] <;> omega) | fail) only [amX Tryd.prog ro X, amR Tryd.prog ro X, amS, seval, reduceCtorEq, ty3, ty9, ty29, ty47, ty53, ty55, ty67, ty69, e1, e2, e3, e14, e15, eI, hap2, gA3, gA8]
      obtain ⟨y1, y2, y3⟩ := hs'.lt (List.append_ne_nil_of_right_ne_nil _ (by simp))
      refine ⟨fun b hb => hE3.get b (by first | omega | (simp only [AH.size_new, AH.size_put] <;> omega)), x.2.2.length - (i + 1), by omega, ⟨(by first | omega | (simp only [AH.size_new, AH.size_put] <;> omega)), fun b hb hm => (AH.get_put_other (by simpa using hm)).trans ((hg.get b (by omega) (.inl hb)).trans ((hE3.get b (by omega)).trans ((hEJ.get b (by omega)).trans (hXH.get b hb hm))))⟩, i + 1, by omega, rfl, by simp, u2, G ++ (G3 ++ G4), ?_, ?_, .inr (by first | omega | (simp only [AH.size_new, AH.size_put] <;> omega)), rfl⟩
      · rw [List.take_succ_eq_append_getElem hil]
        refine hs'.frame (Nat.le_refl _) (fun x hx h => AH.get_put_other ?_)
        rcases h with ⟨_, h, _⟩ | h
        · omega
        · rcases List.mem_append.1 h with h | h
          · have := hfr.lo x h; omega
          · have := fr3.lo x h; omega
      · exact ((hfr.mono (Nat.le_refl _) (by omega)).append fr3 (by omega) (by omega)).mono (Nat.le_refl _) (by first | omega | (simp only [AH.size_new, AH.size_put] <;> omega))
    · have hil : i = x.2.2.length := by simp at h; omega
      subst hil
      rw [List.take_length] at hacc2
      have gr := (hXH.get (A.size + 1) (by omega) (by simp; omega)).trans gr0
      simp (maxSteps := 2000000) (disch := first | omega | (simp only [AH.size_new, AH.size_put] <;> omega) | fail) only [amR Tryd.prog ro X, amS, seval, reduceCtorEq, ty3, ty9, ty29, ty47, ty53, ty55, ty67, ty69, e1, e2, e3, gO, gr]
      refine ⟨t1, u, G1, G, A0.size, rfl, ?_, ?_, (by first | omega | (simp only [AH.size_new, AH.size_put] <;> omega)), fun b hb => by have := fr1.hi b hb; omega, ?_, ⟨hfr.nodup, fun b hb => ⟨hfr.lo b hb, by have := hfr.hi b hb; simpa using this⟩⟩, hub.imp id fun h => (by first | omega | (simp only [AH.size_new, AH.size_put] <;> omega)), (by first | omega | (simp only [AH.size_new, AH.size_put] <;> omega)), ⟨(by first | omega | (simp only [AH.size_new, AH.size_put] <;> omega)), fun b hb => by rw [AH.get_put_other (by omega)]; exact (hXH.get b (by omega) (by simp; omega)).trans (hE0.get b hb)⟩⟩
      · exact ((hG1.ext hE10).extx hXH (fun b hb => by have := fr1.hi b hb; simp; omega)).extx ((ExtX.refl [A.size + 1] H).put (by simp) _) (fun b hb => by have := fr1.lo b hb; simp only [AH.size_new] at this; simp; omega)
      · exact fr1.mono (by first | omega | (simp only [AH.size_new, AH.size_put] <;> omega)) (by first | omega | (simp only [AH.size_new, AH.size_put] <;> omega))
      · exact hacc2.frame (by first | omega | (simp only [AH.size_new, AH.size_put] <;> omega)) (fun b hb h => AH.get_put_other (by
          rcases h with ⟨_, h, _⟩ | h
          · omega
          · have := hfr.lo b h; omega))
theorem impl.copyStore_a (A : AH) (hro : ro ≤ A.size) (s1 s2 : Sl) (x : TStore) (F1 F2 : List Nat) (h1 : SlR A s1 x.2.1 F1) (h2 : SlR A s2 x.2.2 F2) (hl1 : x.2.1.length < 4294967296) (hl2' : x.2.2.length < 4294967296) (hp : ∀ r ∈ x.2.2, r.1.length < 4294967296 ∧ r.2.1.length < 4294967296) :
    ACalls Tryd.prog ro X 123 [.agg #[.int .i64 x.1, s1.v, s2.v]] A (fun r A' => ∃ t1 t2 G1 G2, r = .ret (.agg #[.int .i64 x.1, t1.v, t2.v]) ∧ SlR A' t1 x.2.1 G1 ∧ SlR A' t2 x.2.2 G2 ∧ Fresh A (G1 ++ G2) A' ∧ Ext A A') := by
  refine (impl.copyStore_acc A hro s1 s2 x F1 F2 h1 h2 hl1 hl2' hp).mono ?_
  rintro r A' ⟨t1, t2, G1, G2, lo, rfl, q1, fr1, hlo, hG1, hacc, ⟨hn, hG2⟩, hub, hle, hE⟩
  obtain ⟨F, k1, k2, k3, _⟩ := hacc.foot (fun b hb => (hG2 b hb).1) hn
  exact ⟨t1, t2, G1, F, rfl, q1, k1, ⟨List.nodup_append.2 ⟨fr1.nodup, k2, fun a ha b hb e => by have := hG1 a ha; have := k3 b hb; omega⟩, fun b hb => by
    rcases List.mem_append.1 hb with h | h
    · exact fr1.lo b h
    · have := k3 b h; omega, fun b hb => by
    rcases List.mem_append.1 hb with h | h
    · exact fr1.hi b h
    · exact k1.bound b h⟩, hE⟩
theorem spec.l4Copy_acc (A : AH) (hro : ro ≤ A.size) (s1 s2 : Sl) (x : TStore) (F1 F2 : List Nat) (h1 : SlR A s1 x.2.1 F1) (h2 : SlR A s2 x.2.2 F2) (hl1 : x.2.1.length < 4294967296) (hl2' : x.2.2.length < 4294967296) (hp : ∀ r ∈ x.2.2, r.1.length < 4294967296 ∧ r.2.1.length < 4294967296) :
    ACalls Tryd.prog ro X 122 [.agg #[.int .i64 x.1, s1.v, s2.v]] A (fun r A' => ∃ t1 t2 G1 G2 lo, r = .ret (.agg #[.int .i64 x.1, t1.v, t2.v]) ∧ SlR A' t1 x.2.1 G1 ∧ Fresh A G1 A' ∧ A.size ≤ lo ∧ (∀ b ∈ G1, b < lo) ∧ Acc lo A' t2 x.2.2 G2 ∧ (G2.Nodup ∧ ∀ b ∈ G2, lo ≤ b ∧ b < A'.size) ∧ (t2.nl = true ∨ t2.b < A'.size) ∧ lo ≤ A'.size ∧ Ext A A') := by
  refine ACalls.enterQ (rs := [.cell 2 55]) Tryd.func122 rfl (by kernel_rfl) rfl ?_
  have hl2 := h2.len
  obtain ⟨t1, A1, hap, hacc1, hE1⟩ := (h1.ext (A' := (A.new (.cells [.int .i64 x.1, s1.v, s2.v] 3)).new (.cells [.int .i64 0, Sl.nil.v, Sl.nil.v] 3)) (by ((repeat' (first | exact Ext.refl _ | assumption | refine Ext.trans ?_ (Ext.new _ _) | refine Ext.put ?_ ?_ _ | refine Ext.trans ?_ (by assumption))) <;> (first | omega | (simp only [AH.size_new, AH.size_put] <;> omega))))).copied (P := Tryd.prog) (ro := ro) (t := 47) (fun h => h.nofoot nofoot_Str) (by simp only [ty47]; rfl) (by first | omega | (simp only [AH.size_new, AH.size_put] <;> omega)) hl1
  rw [show Dat.w ByteArray = 1 from rfl] at hap
  simp only [AH.size_new] at hap
  have v1 := hE1.size
  simp only [AH.size_new] at v1
  simp (maxSteps := 2000000) (disch := first | omega | (simp only [AH.size_new, AH.size_put] <;> omega) | fail) only [amR Tryd.prog ro X, amS, seval, reduceCtorEq, ty3, ty9, ty29, ty47, ty53, ty55, ty67, ty69]
  refine WpH (A.size + 1 + 1) [5] (by kernel_rfl) (.inl (by kernel_rfl)) ?_
  simp (maxSteps := 2000000) (disch := first | omega | (simp only [AH.size_new, AH.size_put] <;> omega) | fail) only [amX Tryd.prog ro X, amR Tryd.prog ro X, amS, seval, reduceCtorEq, ty3, ty9, ty29, ty47, ty53, ty55, ty67, ty69, hap, hl2]
  refine ⟨fun b hb => (hE1.get b (by first | omega | (simp only [AH.size_new, AH.size_put] <;> omega))).trans (AH.get_new_other (by first | omega | (simp only [AH.size_new, AH.size_put] <;> omega))).symm, ?_⟩
  obtain ⟨G1, hG1, fr1⟩ := hacc1.fresh (Fresh.nil _ A1)
  have u0 := hE1.get A.size (by first | omega | (simp only [AH.size_new, AH.size_put] <;> omega))
  have u1 := hE1.get (A.size + 1) (by first | omega | (simp only [AH.size_new, AH.size_put] <;> omega))
  skip
  generalize hA0 : (A1.new _).put A1.size _ = A0
  have hz0 : A0.size = A1.size + 1 := by rw [← hA0]; rfl
  have hE10 : Ext A1 A0 := by rw [← hA0]; exact (by ((repeat' (first | exact Ext.refl _ | assumption | refine Ext.trans ?_ (Ext.new _ _) | refine Ext.put ?_ ?_ _ | refine Ext.trans ?_ (by assumption))) <;> (first | omega | (simp only [AH.size_new, AH.size_put] <;> omega))))
  have hE0 : Ext A A0 := (by ((repeat' (first | exact Ext.refl _ | assumption | refine Ext.trans ?_ (Ext.new _ _) | refine Ext.put ?_ ?_ _ | refine Ext.trans ?_ (by assumption))) <;> (first | omega | (simp only [AH.size_new, AH.size_put] <;> omega))))
  have go0 : A0.get A1.size = .cells [.int .i64 x.1, t1.v, Sl.nil.v] 3 := by rw [← hA0]; exact AH.get_put_self _ _ _
  have gb0 : A0.get A.size = .cells [.int .i64 x.1, s1.v, s2.v] 3 := by rw [hE10.get _ (by first | omega | (simp only [AH.size_new, AH.size_put] <;> omega)), u0, AH.get_new_other (by simp only [AH.size_new]; omega)]; exact AH.get_new_self _ _
  have gr0 : A0.get (A.size + 1) = .cells [.int .i64 0, Sl.nil.v, Sl.nil.v] 3 := by rw [hE10.get _ (by first | omega | (simp only [AH.size_new, AH.size_put] <;> omega)), u1]; exact AH.get_new_self _ _
  refine Wp.loopC (fun k e H => ExtX [A1.size] A0 H ∧ e 1 = .pointer (some ⟨A.size, 0, none⟩) ∧ e 2 = .pointer (some ⟨A.size + 1, 0, none⟩) ∧ e 3 = .pointer (some ⟨A1.size, 0, none⟩) ∧ 
    ∃ i : Nat, i ≤ x.2.2.length ∧ k = x.2.2.length - i ∧ e 4 = .int .i64 i ∧ ∃ u G, Acc A0.size H u (x.2.2.take i) G ∧ Fresh A0 G H ∧ (u.nl = true ∨ u.b < H.size) ∧ H.get A1.size = .cells [.int .i64 x.1, t1.v, u.v] 3) (x.2.2.length - 0) ?_ ?_
  · simp (maxSteps := 2000000) (disch := first | omega | (simp only [AH.size_new, AH.size_put] <;> omega) | fail) only [amV, amH, amQ, amL, amN Tryd.prog, amS, seval, reduceCtorEq, ty3, ty9, ty29, ty47, ty53, ty55, ty67, ty69, hl2]
    exact ⟨ExtX.refl _ _, 0, by omega, rfl, rfl, Sl.nil, [], .nil, Fresh.nil _ _, .inl rfl, go0⟩
  · rintro k e H ⟨hXH, e1, e2, e3, i, hi, rfl, eI, u, G, hacc2, hfr, hub, gO⟩
    have hzH := hXH.size
    have hs2 : SlR H s2 x.2.2 F2 := (h2.ext hE0).extx hXH (fun b hb => by have := h2.bound b hb; simp; omega)
    have gbH := (hXH.get A.size (by omega) (by simp; omega)).trans gb0
    simp (maxSteps := 2000000) (disch := first | omega | (simp only [AH.size_new, AH.size_put] <;> omega) | fail) only [amR Tryd.prog ro X, amS, seval, reduceCtorEq, ty3, ty9, ty29, ty47, ty53, ty55, ty67, ty69, e1, eI, gbH, hl2]
    refine CondB.split (fun h => ?_) (fun h => ?_)
    · have hil : i < x.2.2.length := by simpa using h
      obtain ⟨n1, b1, i1, w1, w2, K1, K2, rr, d1, d2, z1, hK1, hK2⟩ := hs2.record hil
      simp (maxSteps := 2000000) (disch := first | omega | (simp only [AH.size_new, AH.size_put] <;> omega) | fail) only [amR Tryd.prog ro X, amS, seval, reduceCtorEq, ty3, ty9, ty29, ty47, ty53, ty55, ty67, ty69, e1, e2, e3, eI, gbH, n1]
      refine WpH (H.size) [7] (by kernel_rfl) (.inl (by kernel_rfl)) ?_
      simp (maxSteps := 2000000) (disch := first | omega | (simp only [AH.size_new, AH.size_put] <;> omega) | fail) only [amX Tryd.prog ro X, amR Tryd.prog ro X, amS, seval, reduceCtorEq, ty3, ty9, ty29, ty47, ty53, ty55, ty67, ty69, e1, e2, e3, eI, gO, gbH, hl2, n1, rr, b1]
      have hEJ : Ext H H := Ext.refl _
      refine (spec.l4Record_a _ (by first | omega | (simp only [AH.size_new, AH.size_put] <;> omega)) w1 w2 x.2.2[i] K1 K2 d1 d2 (hp _ (List.getElem_mem hil)).1 (hp _ (List.getElem_mem hil)).2).mono ?_
      rintro r A3 ⟨t3, t4, G3, G4, rfl, q3, q4, fr3, hE3⟩
      have v3 := hE3.size
      obtain ⟨u2, A8, hap2, hs', hg, hz8, _⟩ := ((hacc2.ext hEJ).ext hE3).lit (P := Tryd.prog) (ro := ro) (t := 53) (n := 1) (vs := [t3.v, t4.v, .string x.2.2[i].2.2]) (xs := [x.2.2[i]]) (Gx := G3 ++ G4) (by omega) (by simp only [ty53]; rfl) rfl (Reps.one (rep_Record.2 ⟨t3, t4, G3, G4, rfl, rfl, q3, q4, by show x.2.2[i].2.2.size < _; unfold BIG; omega⟩)) (hub.imp id fun h hm => by have := fr3.lo _ hm; omega) (by simp; omega) (by omega)
      rw [show Dat.w TRecord = 3 from rfl] at hap2
      have gA3 := (hE3.get A1.size (by omega)).trans gO
      have gA8 := (hg.get A1.size (by omega) (.inl (by omega))).trans gA3
      simp (maxSteps := 2000000) (disch := first | omega | (simp only [AH.size_new, AH.size_put] <;> omega) | fail) only [amX Tryd.prog ro X, amR Tryd.prog ro X, amS, seval, reduceCtorEq, ty3, ty9, ty29, ty47, ty53, ty55, ty67, ty69, e1, e2, e3, eI, hap2, gA3, gA8]
      obtain ⟨y1, y2, y3⟩ := hs'.lt (List.append_ne_nil_of_right_ne_nil _ (by simp))
      refine ⟨fun b hb => hE3.get b (by first | omega | (simp only [AH.size_new, AH.size_put] <;> omega)), x.2.2.length - (i + 1), by omega, ⟨(by first | omega | (simp only [AH.size_new, AH.size_put] <;> omega)), fun b hb hm => (AH.get_put_other (by simpa using hm)).trans ((hg.get b (by omega) (.inl hb)).trans ((hE3.get b (by omega)).trans ((hEJ.get b (by omega)).trans (hXH.get b hb hm))))⟩, i + 1, by omega, rfl, by simp, u2, G ++ (G3 ++ G4), ?_, ?_, .inr (by first | omega | (simp only [AH.size_new, AH.size_put] <;> omega)), rfl⟩
      · rw [List.take_succ_eq_append_getElem hil]
        refine hs'.frame (Nat.le_refl _) (fun x hx h => AH.get_put_other ?_)
        rcases h with ⟨_, h, _⟩ | h
        · omega
        · rcases List.mem_append.1 h with h | h
          · have := hfr.lo x h; omega
          · have := fr3.lo x h; omega
      · exact ((hfr.mono (Nat.le_refl _) (by omega)).append fr3 (by omega) (by omega)).mono (Nat.le_refl _) (by first | omega | (simp only [AH.size_new, AH.size_put] <;> omega))
    · have hil : i = x.2.2.length := by simp at h; omega
      subst hil
      rw [List.take_length] at hacc2
      have gr := (hXH.get (A.size + 1) (by omega) (by simp; omega)).trans gr0
      simp (maxSteps := 2000000) (disch := first | omega | (simp only [AH.size_new, AH.size_put] <;> omega) | fail) only [amR Tryd.prog ro X, amS, seval, reduceCtorEq, ty3, ty9, ty29, ty47, ty53, ty55, ty67, ty69, e1, e2, e3, gO, gr]
      refine ⟨t1, u, G1, G, A0.size, rfl, ?_, ?_, (by first | omega | (simp only [AH.size_new, AH.size_put] <;> omega)), fun b hb => by have := fr1.hi b hb; omega, ?_, ⟨hfr.nodup, fun b hb => ⟨hfr.lo b hb, by have := hfr.hi b hb; simpa using this⟩⟩, hub.imp id fun h => (by first | omega | (simp only [AH.size_new, AH.size_put] <;> omega)), (by first | omega | (simp only [AH.size_new, AH.size_put] <;> omega)), ⟨(by first | omega | (simp only [AH.size_new, AH.size_put] <;> omega)), fun b hb => by rw [AH.get_put_other (by omega)]; exact (hXH.get b (by omega) (by simp; omega)).trans (hE0.get b hb)⟩⟩
      · exact ((hG1.ext hE10).extx hXH (fun b hb => by have := fr1.hi b hb; simp; omega)).extx ((ExtX.refl [A.size + 1] H).put (by simp) _) (fun b hb => by have := fr1.lo b hb; simp only [AH.size_new] at this; simp; omega)
      · exact fr1.mono (by first | omega | (simp only [AH.size_new, AH.size_put] <;> omega)) (by first | omega | (simp only [AH.size_new, AH.size_put] <;> omega))
      · exact hacc2.frame (by first | omega | (simp only [AH.size_new, AH.size_put] <;> omega)) (fun b hb h => AH.get_put_other (by
          rcases h with ⟨_, h, _⟩ | h
          · omega
          · have := hfr.lo b h; omega))
theorem spec.l4Copy_a (A : AH) (hro : ro ≤ A.size) (s1 s2 : Sl) (x : TStore) (F1 F2 : List Nat) (h1 : SlR A s1 x.2.1 F1) (h2 : SlR A s2 x.2.2 F2) (hl1 : x.2.1.length < 4294967296) (hl2' : x.2.2.length < 4294967296) (hp : ∀ r ∈ x.2.2, r.1.length < 4294967296 ∧ r.2.1.length < 4294967296) :
    ACalls Tryd.prog ro X 122 [.agg #[.int .i64 x.1, s1.v, s2.v]] A (fun r A' => ∃ t1 t2 G1 G2, r = .ret (.agg #[.int .i64 x.1, t1.v, t2.v]) ∧ SlR A' t1 x.2.1 G1 ∧ SlR A' t2 x.2.2 G2 ∧ Fresh A (G1 ++ G2) A' ∧ Ext A A') := by
  refine (spec.l4Copy_acc A hro s1 s2 x F1 F2 h1 h2 hl1 hl2' hp).mono ?_
  rintro r A' ⟨t1, t2, G1, G2, lo, rfl, q1, fr1, hlo, hG1, hacc, ⟨hn, hG2⟩, hub, hle, hE⟩
  obtain ⟨F, k1, k2, k3, _⟩ := hacc.foot (fun b hb => (hG2 b hb).1) hn
  exact ⟨t1, t2, G1, F, rfl, q1, k1, ⟨List.nodup_append.2 ⟨fr1.nodup, k2, fun a ha b hb e => by have := hG1 a ha; have := k3 b hb; omega⟩, fun b hb => by
    rcases List.mem_append.1 hb with h | h
    · exact fr1.lo b h
    · have := k3 b h; omega, fun b hb => by
    rcases List.mem_append.1 hb with h | h
    · exact fr1.hi b h
    · exact k1.bound b h⟩, hE⟩
theorem put_a (A : AH) (hro : ro ≤ A.size) (p : Nat) (hp : p < A.size) (hrp : ro ≤ p) (w : Int) (s1 : Sl) (v2 : Value) (hv : acells v2 = some [v2]) (l : List ByteArray) (F : List Nat) (h1 : SlR A s1 l F) (hpF : p ∉ F) (g : A.get p = .cells [.int .i64 w, s1.v, v2] 3) (hR : Rising w l) (hl : l.length < 1000000) (t : ByteArray) (ht : t.size < 4611686018427387904) :
    ACalls Tryd.prog ro X 124 [.pointer (some ⟨p, 0, none⟩), .string t] A (fun r A' => ∃ s' G, r = .ret (.tuple #[.int .i64 (putCode (putKind w l t)), .string (putOther (putKind w l t))]) ∧ A'.get p = .cells [.int .i64 w, s'.v, v2] 3 ∧ SlR A' s' (putTexts w l t) G ∧ (G = F ∨ Fresh A G A') ∧ ExtX [p] A A') := by
  refine ACalls.enterQ (rs := [.tmp 4, .tmp 5]) Tryd.func124 rfl (by kernel_rfl) rfl ?_
  have hlen := h1.len
  simp (maxSteps := 2000000) (disch := first | omega | (simp only [AH.size_new, AH.size_put] <;> omega) | fail) only [amR Tryd.prog ro X, amS, seval, reduceCtorEq, ty3, ty9, ty47, ty53, ty55]
  refine WpH (A.size) [8] (by kernel_rfl) (.inl (by kernel_rfl)) ?_
  simp (maxSteps := 2000000) (disch := first | omega | (simp only [AH.size_new, AH.size_put] <;> omega) | fail) only [amX2 Tryd.prog ro X, amX Tryd.prog ro X, amR Tryd.prog ro X, amS, seval, reduceCtorEq, ty3, ty9, ty47, ty53, ty55, g]
  refine (Sum.impl_a _ (by first | omega | (simp only [AH.size_new, AH.size_put] <;> omega)) t w ht).mono ?_
  rintro r A1 ⟨rfl, hE1⟩
  have v1 := hE1.size
  have g1 := (hE1.get p hp).trans g
  simp (maxSteps := 2000000) (disch := first | omega | (simp only [AH.size_new, AH.size_put] <;> omega) | fail) only [amX2 Tryd.prog ro X, amX Tryd.prog ro X, amR Tryd.prog ro X, amS, seval, reduceCtorEq, ty3, ty9, ty47, ty53, ty55, g, g1]
  refine ⟨fun b hb => hE1.get b hb, ?_⟩
  refine (Place.place_a _ (by first | omega | (simp only [AH.size_new, AH.size_put] <;> omega)) w s1 v2 (sumS t w) l F (h1.ext (by ((repeat' (first | exact Ext.refl _ | assumption | refine Ext.trans ?_ (Ext.new _ _) | refine Ext.put ?_ ?_ _ | refine Ext.trans ?_ (by assumption))) <;> (first | omega | (simp only [AH.size_new, AH.size_put] <;> omega))))) hR (by omega)).mono ?_
  rintro r A2 ⟨rfl, hE2⟩
  have v2' := hE2.size
  have g2 := (hE2.get p (by omega)).trans g1
  have hle := plc_le w (sumS t w) l
  by_cases k1 : (getR w (sumS t w) l).isSome = true
  · obtain ⟨hil, e1⟩ := getR_is k1
    obtain ⟨n1, b1, m1, i1, c1, q1⟩ := ((h1.ext hE1).ext hE2).str hil
    rw [aCell_eq] at c1
    by_cases k2 : l[plc w (sumS t w) l] = t
    · simp (maxSteps := 2000000) (disch := first | omega | (simp only [AH.size_new, AH.size_put] <;> omega) | fail) only [amX2 Tryd.prog ro X, amX Tryd.prog ro X, amR Tryd.prog ro X, amS, seval, reduceCtorEq, ty3, ty9, ty47, ty53, ty55, g2, k1, n1, c1, k2]
      have hk := putKind_same hil e1 k2
      exact ⟨s1, F, by rw [hk]; rfl, rfl, by rw [putTexts, hk]; exact (h1.ext hE1).ext hE2, .inl rfl, (hE1.trans hE2).x _⟩
    · simp (maxSteps := 2000000) (disch := first | omega | (simp only [AH.size_new, AH.size_put] <;> omega) | fail) only [amX2 Tryd.prog ro X, amX Tryd.prog ro X, amR Tryd.prog ro X, amS, seval, reduceCtorEq, ty3, ty9, ty47, ty53, ty55, g2, k1, n1, c1, k2]
      refine WpH (A2.size) [] (by kernel_rfl) (.inl (by kernel_rfl)) ?_
      simp (maxSteps := 2000000) (disch := first | omega | (simp only [AH.size_new, AH.size_put] <;> omega) | fail) only [amX2 Tryd.prog ro X, amX Tryd.prog ro X, amR Tryd.prog ro X, amS, seval, reduceCtorEq, ty3, ty9, ty47, ty53, ty55, g2, k1, n1, c1, k2]
      have hk := putKind_clash hil e1 k2
      exact ⟨s1, F, by rw [hk]; rfl, rfl, by rw [putTexts, hk]; exact (h1.ext hE1).ext hE2, .inl rfl, (hE1.trans hE2).x _⟩
  · have k1' : getR w (sumS t w) l = none := by
      cases hg : getR w (sumS t w) l with
      | none => rfl
      | some o => rw [hg] at k1; exact absurd rfl k1
    by_cases k3 : (5000 : Int) ≤ l.length
    · simp (maxSteps := 2000000) (disch := first | omega | (simp only [AH.size_new, AH.size_put] <;> omega) | fail) only [amX2 Tryd.prog ro X, amX Tryd.prog ro X, amR Tryd.prog ro X, amS, seval, reduceCtorEq, ty3, ty9, ty47, ty53, ty55, g2, k1', hlen, k3, Option.isSome_none]
      have hk := putKind_full k1' (by omega)
      exact ⟨s1, F, by rw [hk]; rfl, rfl, by rw [putTexts, hk]; exact (h1.ext hE1).ext hE2, .inl rfl, (hE1.trans hE2).x _⟩
    · simp (maxSteps := 2000000) (disch := first | omega | (simp only [AH.size_new, AH.size_put] <;> omega) | fail) only [amX2 Tryd.prog ro X, amX Tryd.prog ro X, amR Tryd.prog ro X, amS, seval, reduceCtorEq, ty3, ty9, ty47, ty53, ty55, g2, k1', hlen, k3, Option.isSome_none]
      have h2 := (h1.ext hE1).ext hE2
      have htz : tElemSize Tryd.prog 47 = some (Dat.w ByteArray) := by simp only [ty47]; rfl
      obtain ⟨sa, Fa, ea, qa, ra, la, ca⟩ := h2.upto3 htz hle (by unfold BIG; omega)
      obtain ⟨sb, Fb, eb, qb, rb⟩ := (h2.ext (Ext.new A2 (.cells [.string t] 1))).from htz hle
      obtain ⟨vb, hsb, hrb⟩ := qb.srcS
      have hdl := List.length_drop (i := plc w (sumS t w) l) (l := l)
      obtain ⟨sc, A3, hap3, hacc3, hg3, _⟩ := (Acc.own (lo := A2.size) (A := A2.new (.cells [.string t] 1)) (l := [t]) (b := A2.size) (n := 1) (c := 1) (cs := [.string t]) (G := []) (Nat.le_refl _) (Nat.lt_succ_self _) (by simp) rfl (.inr ⟨rfl, by decide⟩) (AH.get_new_self _ _) (Reps.one (show [Value.string t] = [Value.string t] ∧ ([] : List Nat) = [] ∧ t.size < BIG from ⟨rfl, rfl, ht⟩))).app (P := Tryd.prog) (ro := ro) (t := 47) (by omega) htz hsb rfl (hrb _) (.inr (by simp)) (by simp; omega) (by simp only [AH.size_new]; omega)
      have hE3 : Ext A2 A3 := hg3.ext (Ext.new _ _) (Nat.le_refl _)
      have v3 := hE3.size
      obtain ⟨Fc, qc, _⟩ := hacc3.slr
      obtain ⟨vc, hsc, hrc⟩ := qc.srcS
      obtain ⟨sd, A4, hap4, hacc4, hE4, hz4⟩ := app_full (P := Tryd.prog) (ro := ro) (t := 47) (qa.ext hE3) (by rw [ca, la]) (by rw [ca]; unfold BIG; omega) htz hsc (hrc _) (by simp) (by simp; omega)
      have g3 := (hE3.get p (by omega)).trans g2
      have g4 := (hE4.get p (by omega)).trans g3
      refine WpH (A2.size) [16] (by kernel_rfl) (.inl (by kernel_rfl)) ?_
      have hbs := h2.bound
      have hsbound : s1.b < A2.size ∨ s1.cap < BIG ∨ s1.nl = true := by
        cases h2 with
        | nil h hl hF => rw [h]; exact .inr (.inr rfl)
        | empty h hn hc hl hF => exact .inr (.inl hc)
        | inB h => exact .inl h.lt
      simp (maxSteps := 2000000) (disch := first | omega | (simp only [AH.size_new, AH.size_put] <;> omega) | fail) only [amX2 Tryd.prog ro X, amX Tryd.prog ro X, amR Tryd.prog ro X, amS, seval, reduceCtorEq, ty3, ty9, ty47, ty53, ty55, g2, g3, g4, ea, eb, hap3, hap4, hsbound]
      have hk := putKind_put k1' (by omega)
      obtain ⟨G, hG, frG⟩ := hacc4.fresh (Fresh.nil A3 A4)
      have v4 := hE4.size
      refine ⟨fun b hb => (hE3.get b hb).trans (AH.get_new_other (by omega)).symm, sd, G, by rw [hk]; rfl, rfl, ?_, .inr (frG.mono (by omega) (by first | omega | (simp only [AH.size_new, AH.size_put] <;> omega))), (((hE1.trans hE2).trans (hE3.trans hE4)).x [p]).put (by simp) _⟩
      rw [putTexts, hk]
      exact hG.extx ((ExtX.refl [p] A4).put (by simp) _) (fun b hb => by have := frG.lo b hb; simp; omega)
theorem zeroSt_rep (A : AH) : Dat.rep A zeroSt [.int .i64 0, Sl.nil.v, Sl.nil.v] [] := rep_Store.2 ⟨_, _, _, _, rfl, rfl, .nil rfl rfl rfl, .nil rfl rfl rfl⟩
/-- An answer without a store. -/
theorem bare_rep (A : AH) (c : Int) (a b : ByteArray) (ha : a.size < BIG) (hb : b.size < BIG) : Dat.rep A ((c, zeroSt, a, b) : TKept) [.int .i64 c, .int .i64 0, Sl.nil.v, Sl.nil.v, .string a, .string b] [] :=
  rep_Kept.2 ⟨_, _, _, _, rfl, rfl, .nil rfl rfl rfl, .nil rfl rfl rfl, ha, hb⟩
theorem e0 : (⟨#[]⟩ : ByteArray).size < BIG := by decide
theorem l4Put_a (A : AH) (hro : ro ≤ A.size) (s1 s2 : Sl) (x : TStore) (F1 F2 : List Nat) (h1 : SlR A s1 x.2.1 F1) (h2 : SlR A s2 x.2.2 F2) (hl : x.2.1.length < 1000000) (t : ByteArray) (ht : t.size < 4611686018427387904) :
    ACalls Tryd.prog ro X 121 [.agg #[.int .i64 x.1, s1.v, s2.v], .string t] A (fun r A' => ∃ cs G, r = .ret (.agg cs.toArray) ∧ Dat.rep A' (putR x t) cs G ∧ (∀ b ∈ G, b ∈ F1 ++ F2 ∨ A.size ≤ b) ∧ Ext A A') := by
  refine ACalls.enterQ (rs := [.cell 4 88]) Tryd.func121 rfl (by kernel_rfl) rfl ?_
  have hlen := h1.len
  simp (maxSteps := 2000000) (disch := first | omega | (simp only [AH.size_new, AH.size_put] <;> omega) | fail) only [amR Tryd.prog ro X, amS, seval, reduceCtorEq, ty3, ty9, ty47, ty53, ty55, ty88]
  refine (Sum.spec_a _ (by first | omega | (simp only [AH.size_new, AH.size_put] <;> omega)) t x.1 ht).mono ?_
  rintro r A1 ⟨rfl, hE1⟩
  have v1 := hE1.size
  simp only [AH.size_new] at v1
  simp (maxSteps := 2000000) (disch := first | omega | (simp only [AH.size_new, AH.size_put] <;> omega) | fail) only [amR Tryd.prog ro X, amS, seval, reduceCtorEq, ty3, ty9, ty47, ty53, ty55, ty88, hE1.get]
  refine (Place.l4Place_a _ (by first | omega | (simp only [AH.size_new, AH.size_put] <;> omega)) x.1 s1 s2.v (sumS t x.1) x.2.1 F1 (h1.ext (by ((repeat' (first | exact Ext.refl _ | assumption | refine Ext.trans ?_ (Ext.new _ _) | refine Ext.put ?_ ?_ _ | refine Ext.trans ?_ (by assumption))) <;> (first | omega | (simp only [AH.size_new, AH.size_put] <;> omega))))) (by omega)).mono ?_
  rintro r A2 ⟨rfl, hE2⟩
  have v2 := hE2.size
  have g1 := (hE2.get A.size (by first | omega | (simp only [AH.size_new, AH.size_put] <;> omega))).trans ((hE1.get A.size (by first | omega | (simp only [AH.size_new, AH.size_put] <;> omega))).trans (AH.get_new_other (by simp only [AH.size_new]; omega)))
  rw [AH.get_new_self] at g1
  have g2 := (hE2.get (A.size + 1) (by first | omega | (simp only [AH.size_new, AH.size_put] <;> omega))).trans (hE1.get (A.size + 1) (by first | omega | (simp only [AH.size_new, AH.size_put] <;> omega)))
  have g2' : A2.get (A.size + 1) = .cells [.int .i64 0, .int .i64 0, Sl.nil.v, Sl.nil.v, .string ⟨#[]⟩, .string ⟨#[]⟩] 6 := g2.trans (AH.get_new_self _ _)
  have hEA2 : Ext A A2 := (by ((repeat' (first | exact Ext.refl _ | assumption | refine Ext.trans ?_ (Ext.new _ _) | refine Ext.put ?_ ?_ _ | refine Ext.trans ?_ (by assumption))) <;> (first | omega | (simp only [AH.size_new, AH.size_put] <;> omega))))
  have hle := plc_le x.1 (sumS t x.1) x.2.1
  simp (maxSteps := 2000000) (disch := first | omega | (simp only [AH.size_new, AH.size_put] <;> omega) | fail) only [amR Tryd.prog ro X, amS, seval, reduceCtorEq, ty3, ty9, ty47, ty53, ty55, ty88, g1]
  refine WpH (A2.size) [13] (by kernel_rfl) (.inr (by intro v e A h; simp only [amK, amQ, thenQ, blockQ, endQ, reduceCtorEq, false_and, exists_false] at h)) ?_
  by_cases d : ((plc x.1 (sumS t x.1) x.2.1 : Nat) : Int) < x.2.1.length
  · have hil : plc x.1 (sumS t x.1) x.2.1 < x.2.1.length := by omega
    obtain ⟨n1, b1, m1, i1, c1, q1⟩ := (h1.ext hEA2).str hil
    rw [aCell_eq] at c1
    simp (maxSteps := 2000000) (disch := first | omega | (simp only [AH.size_new, AH.size_put] <;> omega) | fail) only [amX Tryd.prog ro X, amR Tryd.prog ro X, amS, seval, reduceCtorEq, ty3, ty9, ty47, ty53, ty55, ty88, hlen, g1, d, n1, c1]
    refine (Sum.spec_a _ (by first | omega | (simp only [AH.size_new, AH.size_put] <;> omega)) _ x.1 q1).mono ?_
    rintro r A3 ⟨rfl, hE3⟩
    have v3 := hE3.size
    have g3 := (hE3.get A.size (by first | omega | (simp only [AH.size_new, AH.size_put] <;> omega))).trans g1
    have g4 := (hE3.get (A.size + 1) (by first | omega | (simp only [AH.size_new, AH.size_put] <;> omega))).trans g2'
    by_cases e1 : sumS x.2.1[plc x.1 (sumS t x.1) x.2.1] x.1 = sumS t x.1
    · obtain ⟨n1', b1', m1', i1', c1', q1'⟩ := ((h1.ext hEA2).ext hE3).str hil
      rw [aCell_eq] at c1'
      by_cases k2 : x.2.1[plc x.1 (sumS t x.1) x.2.1] = t
      · simp (maxSteps := 2000000) (disch := first | omega | (simp only [AH.size_new, AH.size_put] <;> omega) | fail) only [amX Tryd.prog ro X, amR Tryd.prog ro X, amS, seval, reduceCtorEq, ty3, ty9, ty47, ty53, ty55, ty88, hlen, g3, g4, d, n1, c1', e1, k2]
        have hk := putKind_same hil e1 k2
        refine ⟨fun b hb => hE3.get b hb, _, F1 ++ F2, rfl, ?_, fun b hb => .inl hb, (by ((repeat' (first | exact Ext.refl _ | assumption | refine Ext.trans ?_ (Ext.new _ _) | refine Ext.put ?_ ?_ _ | refine Ext.trans ?_ (by assumption))) <;> (first | omega | (simp only [AH.size_new, AH.size_put] <;> omega))))⟩
        rw [putR, hk]
        exact rep_Kept.2 ⟨s1, s2, F1, F2, rfl, rfl, ((h1.ext hEA2).ext hE3).extx ((ExtX.refl [A.size + 1] _).put (by simp) _) (fun b hb => by have := h1.bound b hb; simp; omega), ((h2.ext hEA2).ext hE3).extx ((ExtX.refl [A.size + 1] _).put (by simp) _) (fun b hb => by have := h2.bound b hb; simp; omega), e0, e0⟩
      · simp (maxSteps := 2000000) (disch := first | omega | (simp only [AH.size_new, AH.size_put] <;> omega) | fail) only [amX Tryd.prog ro X, amR Tryd.prog ro X, amS, seval, reduceCtorEq, ty3, ty9, ty47, ty53, ty55, ty88, hlen, g3, g4, d, n1, c1', e1, k2]
        have hk := putKind_clash hil e1 k2
        refine ⟨fun b hb => hE3.get b hb, _, [], rfl, ?_, by simp, (by ((repeat' (first | exact Ext.refl _ | assumption | refine Ext.trans ?_ (Ext.new _ _) | refine Ext.put ?_ ?_ _ | refine Ext.trans ?_ (by assumption))) <;> (first | omega | (simp only [AH.size_new, AH.size_put] <;> omega))))⟩
        rw [putR, hk]
        exact bare_rep _ 2 _ _ q1 ht
    · simp (maxSteps := 2000000) (disch := first | omega | (simp only [AH.size_new, AH.size_put] <;> omega) | fail) only [amX Tryd.prog ro X, amR Tryd.prog ro X, amS, seval, reduceCtorEq, ty3, ty9, ty47, ty53, ty55, ty88, hlen, g3, g4, d, n1, c1, e1]
      refine ⟨fun b hb => hE3.get b hb, ?_⟩
      have kR : getR x.1 (sumS t x.1) x.2.1 = none := getR_ne hil e1
      by_cases k3 : (5000 : Int) ≤ x.2.1.length
      · simp (maxSteps := 2000000) (disch := first | omega | (simp only [AH.size_new, AH.size_put] <;> omega) | fail) only [amX Tryd.prog ro X, amR Tryd.prog ro X, amS, seval, reduceCtorEq, ty3, ty9, ty47, ty53, ty55, ty88, hlen, g3, g4, k3]
        have hk := putKind_full kR (by omega)
        refine ⟨_, [], rfl, by rw [putR, hk]; exact bare_rep _ 3 _ _ e0 e0, by simp, (by ((repeat' (first | exact Ext.refl _ | assumption | refine Ext.trans ?_ (Ext.new _ _) | refine Ext.put ?_ ?_ _ | refine Ext.trans ?_ (by assumption))) <;> (first | omega | (simp only [AH.size_new, AH.size_put] <;> omega))))⟩
      · have hk := putKind_put kR (by omega)
        have htz : tElemSize Tryd.prog 47 = some (Dat.w ByteArray) := by simp only [ty47]; rfl
        obtain ⟨sa, Fa, ea, qa, ra⟩ := ((h1.ext (hEA2.trans hE3)).ext (Ext.new A3 (.cells [] 1))).upto htz hle
        obtain ⟨va, hsa, hra⟩ := qa.srcS
        have htl := List.length_take (i := plc x.1 (sumS t x.1) x.2.1) (l := x.2.1)
        have hdl := List.length_drop (i := plc x.1 (sumS t x.1) x.2.1) (l := x.2.1)
        obtain ⟨sc, B1, hap1, hacc1, hg1, _⟩ := (Acc.empty (lo := A3.size) (A := A3.new (.cells [] 1)) (α := ByteArray) A3.size 0).app (P := Tryd.prog) (ro := ro) (t := 47) (by omega) htz hsa rfl (hra _) (.inr (by simp)) (by simp; omega) (by simp only [AH.size_new]; omega)
        have hB1 : Ext A3 B1 := hg1.ext (Ext.new _ _) (Nat.le_refl _)
        have w1 := hB1.size
        obtain ⟨sd, B2, hap2, hacc2, hg2, _, _⟩ := hacc1.lit (P := Tryd.prog) (ro := ro) (t := 47) (n := 1) (vs := [.string t]) (xs := [t]) (by omega) htz rfl (Reps.one (show [Value.string t] = [Value.string t] ∧ ([] : List Nat) = [] ∧ t.size < BIG from ⟨rfl, rfl, ht⟩)) (.inr (by simp)) (by simp; omega) (by omega)
        rw [show Dat.w ByteArray = 1 from rfl] at hap2
        have hB2 : Ext A3 B2 := hg2.ext hB1 (Nat.le_refl _)
        have w2 := hB2.size
        obtain ⟨sb, Fb, eb, qb, rb⟩ := ((h1.ext (hEA2.trans hE3)).ext hB2).from htz hle
        obtain ⟨vb, hsb, hrb⟩ := qb.srcS
        obtain ⟨se, B3, hap3, hacc3, hg3, _⟩ := hacc2.app (P := Tryd.prog) (ro := ro) (t := 47) (by omega) htz hsb rfl (hrb _) (.inr (by simp)) (by simp; omega) (by omega)
        have hB3 : Ext A3 B3 := hg3.ext hB2 (Nat.le_refl _)
        have w3 := hB3.size
        have z1 := (hB1.get A.size (by first | omega | (simp only [AH.size_new, AH.size_put] <;> omega))).trans g3
        have z2 := (hB2.get A.size (by first | omega | (simp only [AH.size_new, AH.size_put] <;> omega))).trans g3
        have z3 := (hB3.get A.size (by first | omega | (simp only [AH.size_new, AH.size_put] <;> omega))).trans g3
        have z4 := (hB3.get (A.size + 1) (by first | omega | (simp only [AH.size_new, AH.size_put] <;> omega))).trans g4
        have hsbound : s1.b < A3.size ∨ s1.cap < BIG ∨ s1.nl = true := by
          cases h1 with
          | nil h hl hF => rw [h]; exact .inr (.inr rfl)
          | empty h hn hc hl hF => exact .inr (.inl hc)
          | inB h => exact .inl (by have := h.lt; omega)
        simp (maxSteps := 2000000) (disch := first | omega | (simp only [AH.size_new, AH.size_put] <;> omega) | fail) only [amX Tryd.prog ro X, amR Tryd.prog ro X, amS, seval, reduceCtorEq, ty3, ty9, ty47, ty53, ty55, ty88, hlen, g3, g4, k3, ea, hap1]
        skip
        refine WpH (A3.size) [3] (by kernel_rfl) (.inl (by kernel_rfl)) ?_
        simp (maxSteps := 2000000) (disch := first | omega | (simp only [AH.size_new, AH.size_put] <;> omega) | fail) only [amX2 Tryd.prog ro X, amX Tryd.prog ro X, amR Tryd.prog ro X, amS, seval, reduceCtorEq, ty3, ty9, ty47, ty53, ty55, ty88, z1, z2, z3, z4, hap2, eb, hap3, hsbound]
        obtain ⟨G, hG, frG⟩ := hacc3.fresh (Fresh.nil A3 B3)
        refine ⟨fun b hb => (hg2.get b (by omega) (.inl (by omega))).trans (AH.get_new_other (by omega)).symm, _, G ++ F2, rfl, ?_, fun b hb => by (rcases List.mem_append.1 hb with hb | hb; exact .inr (by have := frG.lo b hb; omega); exact .inl (by simp [hb])), ⟨(by first | omega | (simp only [AH.size_new, AH.size_put] <;> omega)), fun b hb => by rw [AH.get_put_other (by omega), AH.get_put_other (by omega)]; exact (hB3.get b (by omega)).trans ((hEA2.trans hE3).get b hb)⟩⟩
        rw [putR, hk]
        have hX : ExtX [A.size, A.size + 1] B3 ((B3.put A.size (.cells [.int .i64 x.1, se.v, s2.v] 3)).put (A.size + 1) (.cells [.int .i64 0, .int .i64 x.1, se.v, s2.v, .string ByteArray.empty, .string ByteArray.empty] 6)) := ((ExtX.refl _ _).put (by simp) _).put (by simp) _
        refine rep_Kept.2 ⟨se, s2, G, F2, rfl, rfl, ?_, ?_, e0, e0⟩
        · have := hG.extx hX (fun b hb => by have := frG.lo b hb; simp; omega)
          rw [insR']
          simpa using this
        · exact ((h2.ext (hEA2.trans hE3)).ext hB3).extx hX (fun b hb => by have := h2.bound b hb; simp; omega)
  · simp (maxSteps := 2000000) (disch := first | omega | (simp only [AH.size_new, AH.size_put] <;> omega) | fail) only [amX Tryd.prog ro X, amR Tryd.prog ro X, amS, seval, reduceCtorEq, ty3, ty9, ty47, ty53, ty55, ty88, hlen, g1, g2', d]
    have kR : getR x.1 (sumS t x.1) x.2.1 = none := getR_end (by omega)
    by_cases k3 : (5000 : Int) ≤ x.2.1.length
    · simp (maxSteps := 2000000) (disch := first | omega | (simp only [AH.size_new, AH.size_put] <;> omega) | fail) only [amX Tryd.prog ro X, amR Tryd.prog ro X, amS, seval, reduceCtorEq, ty3, ty9, ty47, ty53, ty55, ty88, hlen, g1, g2', k3]
      have hk := putKind_full kR (by omega)
      refine ⟨_, [], rfl, by rw [putR, hk]; exact bare_rep _ 3 _ _ e0 e0, by simp, (by ((repeat' (first | exact Ext.refl _ | assumption | refine Ext.trans ?_ (Ext.new _ _) | refine Ext.put ?_ ?_ _ | refine Ext.trans ?_ (by assumption))) <;> (first | omega | (simp only [AH.size_new, AH.size_put] <;> omega))))⟩
    · have hk := putKind_put kR (by omega)
      have htz : tElemSize Tryd.prog 47 = some (Dat.w ByteArray) := by simp only [ty47]; rfl
      obtain ⟨sa, Fa, ea, qa, ra⟩ := ((h1.ext hEA2).ext (Ext.new A2 (.cells [] 1))).upto htz hle
      obtain ⟨va, hsa, hra⟩ := qa.srcS
      have htl := List.length_take (i := plc x.1 (sumS t x.1) x.2.1) (l := x.2.1)
      have hdl := List.length_drop (i := plc x.1 (sumS t x.1) x.2.1) (l := x.2.1)
      obtain ⟨sc, B1, hap1, hacc1, hg1, _⟩ := (Acc.empty (lo := A2.size) (A := A2.new (.cells [] 1)) (α := ByteArray) A2.size 0).app (P := Tryd.prog) (ro := ro) (t := 47) (by omega) htz hsa rfl (hra _) (.inr (by simp)) (by simp; omega) (by simp only [AH.size_new]; omega)
      have hB1 : Ext A2 B1 := hg1.ext (Ext.new _ _) (Nat.le_refl _)
      have w1 := hB1.size
      obtain ⟨sd, B2, hap2, hacc2, hg2, _, _⟩ := hacc1.lit (P := Tryd.prog) (ro := ro) (t := 47) (n := 1) (vs := [.string t]) (xs := [t]) (by omega) htz rfl (Reps.one (show [Value.string t] = [Value.string t] ∧ ([] : List Nat) = [] ∧ t.size < BIG from ⟨rfl, rfl, ht⟩)) (.inr (by simp)) (by simp; omega) (by omega)
      rw [show Dat.w ByteArray = 1 from rfl] at hap2
      have hB2 : Ext A2 B2 := hg2.ext hB1 (Nat.le_refl _)
      have w2 := hB2.size
      obtain ⟨sb, Fb, eb, qb, rb⟩ := ((h1.ext hEA2).ext hB2).from htz hle
      obtain ⟨vb, hsb, hrb⟩ := qb.srcS
      obtain ⟨se, B3, hap3, hacc3, hg3, _⟩ := hacc2.app (P := Tryd.prog) (ro := ro) (t := 47) (by omega) htz hsb rfl (hrb _) (.inr (by simp)) (by simp; omega) (by omega)
      have hB3 : Ext A2 B3 := hg3.ext hB2 (Nat.le_refl _)
      have w3 := hB3.size
      have z1 := (hB1.get A.size (by first | omega | (simp only [AH.size_new, AH.size_put] <;> omega))).trans g1
      have z2 := (hB2.get A.size (by first | omega | (simp only [AH.size_new, AH.size_put] <;> omega))).trans g1
      have z3 := (hB3.get A.size (by first | omega | (simp only [AH.size_new, AH.size_put] <;> omega))).trans g1
      have z4 := (hB3.get (A.size + 1) (by first | omega | (simp only [AH.size_new, AH.size_put] <;> omega))).trans g2'
      have hsbound : s1.b < A2.size ∨ s1.cap < BIG ∨ s1.nl = true := by
        cases h1 with
        | nil h hl hF => rw [h]; exact .inr (.inr rfl)
        | empty h hn hc hl hF => exact .inr (.inl hc)
        | inB h => exact .inl (by have := h.lt; omega)
      simp (maxSteps := 2000000) (disch := first | omega | (simp only [AH.size_new, AH.size_put] <;> omega) | fail) only [amX Tryd.prog ro X, amR Tryd.prog ro X, amS, seval, reduceCtorEq, ty3, ty9, ty47, ty53, ty55, ty88, hlen, g1, g2', k3, ea, hap1]
      skip
      refine WpH (A2.size) [3] (by kernel_rfl) (.inl (by kernel_rfl)) ?_
      simp (maxSteps := 2000000) (disch := first | omega | (simp only [AH.size_new, AH.size_put] <;> omega) | fail) only [amX2 Tryd.prog ro X, amX Tryd.prog ro X, amR Tryd.prog ro X, amS, seval, reduceCtorEq, ty3, ty9, ty47, ty53, ty55, ty88, z1, z2, z3, z4, hap2, eb, hap3, hsbound]
      obtain ⟨G, hG, frG⟩ := hacc3.fresh (Fresh.nil A2 B3)
      refine ⟨fun b hb => (hg2.get b (by omega) (.inl (by omega))).trans (AH.get_new_other (by omega)).symm, _, G ++ F2, rfl, ?_, fun b hb => by (rcases List.mem_append.1 hb with hb | hb; exact .inr (by have := frG.lo b hb; omega); exact .inl (by simp [hb])), ⟨(by first | omega | (simp only [AH.size_new, AH.size_put] <;> omega)), fun b hb => by rw [AH.get_put_other (by omega), AH.get_put_other (by omega)]; exact (hB3.get b (by omega)).trans (hEA2.get b hb)⟩⟩
      rw [putR, hk]
      have hX : ExtX [A.size, A.size + 1] B3 ((B3.put A.size (.cells [.int .i64 x.1, se.v, s2.v] 3)).put (A.size + 1) (.cells [.int .i64 0, .int .i64 x.1, se.v, s2.v, .string ByteArray.empty, .string ByteArray.empty] 6)) := ((ExtX.refl _ _).put (by simp) _).put (by simp) _
      refine rep_Kept.2 ⟨se, s2, G, F2, rfl, rfl, ?_, ?_, e0, e0⟩
      · have := hG.extx hX (fun b hb => by have := frG.lo b hb; simp; omega)
        rw [insR']
        simpa using this
      · exact ((h2.ext hEA2).ext hB3).extx hX (fun b hb => by have := h2.bound b hb; simp; omega)
theorem putT_bad {x : TStore} {t : ByteArray} (h : ¬ StoreOk x ∨ 2002 < t.size) : putT x t = (1, zeroSt, ⟨#[]⟩, ⟨#[]⟩) := if_pos h
theorem putT_ok {x : TStore} {t : ByteArray} (h : StoreOk x) (k : ¬ 2002 < t.size) : putT x t = putR x t := if_neg (by rintro (q | q); exact q h; exact k q)
theorem spec_a (A : AH) (hro : ro ≤ A.size) (s1 s2 : Sl) (x : TStore) (F1 F2 : List Nat) (h1 : SlR A s1 x.2.1 F1) (h2 : SlR A s2 x.2.2 F2) (hp : ∀ r ∈ x.2.2, r.1.length < 4294967296) (t : ByteArray) (ht : t.size < 4611686018427387904) :
    ACalls Tryd.prog ro X 51 [.agg #[.int .i64 x.1, s1.v, s2.v], .string t] A (fun r A' => ∃ cs G, r = .ret (.agg cs.toArray) ∧ Dat.rep A' (putT x t) cs G ∧ Ext A A') := by
  refine ACalls.enterQ (rs := [.cell 4 88]) Tryd.func51 rfl (by kernel_rfl) rfl ?_
  simp (maxSteps := 2000000) (disch := first | omega | (simp only [AH.size_new, AH.size_put] <;> omega) | fail) only [amR Tryd.prog ro X, amS, seval, reduceCtorEq, ty3, ty4, ty9, ty47, ty53, ty55, ty88]
  refine (Store.specStore_a _ (by first | omega | (simp only [AH.size_new, AH.size_put] <;> omega)) s1 s2 x F1 F2 (h1.ext (by ((repeat' (first | exact Ext.refl _ | assumption | refine Ext.trans ?_ (Ext.new _ _) | refine Ext.put ?_ ?_ _ | refine Ext.trans ?_ (by assumption))) <;> (first | omega | (simp only [AH.size_new, AH.size_put] <;> omega))))) (h2.ext (by ((repeat' (first | exact Ext.refl _ | assumption | refine Ext.trans ?_ (Ext.new _ _) | refine Ext.put ?_ ?_ _ | refine Ext.trans ?_ (by assumption))) <;> (first | omega | (simp only [AH.size_new, AH.size_put] <;> omega))))) (fun r hr => by have := hp r hr; omega)).mono ?_
  rintro r A1 ⟨rfl, hE1⟩
  have v1 := hE1.size
  simp only [AH.size_new] at v1
  by_cases hS : StoreOk x
  · by_cases k2 : (2002 : Int) < t.size
    · simp (maxSteps := 2000000) (disch := first | omega | (simp only [AH.size_new, AH.size_put] <;> omega) | fail) only [amR Tryd.prog ro X, amS, seval, reduceCtorEq, ty3, ty4, ty9, ty47, ty53, ty55, ty88, hE1.get, hS, k2]
      exact ⟨_, [], rfl, by rw [putT_bad (.inr (by omega))]; exact bare_rep _ 1 _ _ e0 e0, (by ((repeat' (first | exact Ext.refl _ | assumption | refine Ext.trans ?_ (Ext.new _ _) | refine Ext.put ?_ ?_ _ | refine Ext.trans ?_ (by assumption))) <;> (first | omega | (simp only [AH.size_new, AH.size_put] <;> omega))))⟩
    · simp (maxSteps := 2000000) (disch := first | omega | (simp only [AH.size_new, AH.size_put] <;> omega) | fail) only [amR Tryd.prog ro X, amS, seval, reduceCtorEq, ty3, ty4, ty9, ty47, ty53, ty55, ty88, hE1.get, hS, k2]
      have hlr : x.2.2.length ≤ 2000 := hS.2.2.1
      have hlt : x.2.1.length ≤ 5000 := hS.2.1
      refine (spec.l4Copy_a _ (by first | omega | (simp only [AH.size_new, AH.size_put] <;> omega)) s1 s2 x F1 F2 (h1.ext (by ((repeat' (first | exact Ext.refl _ | assumption | refine Ext.trans ?_ (Ext.new _ _) | refine Ext.put ?_ ?_ _ | refine Ext.trans ?_ (by assumption))) <;> (first | omega | (simp only [AH.size_new, AH.size_put] <;> omega))))) (h2.ext (by ((repeat' (first | exact Ext.refl _ | assumption | refine Ext.trans ?_ (Ext.new _ _) | refine Ext.put ?_ ?_ _ | refine Ext.trans ?_ (by assumption))) <;> (first | omega | (simp only [AH.size_new, AH.size_put] <;> omega))))) (by omega) (by omega) (fun r hr => ⟨hp r hr, by have := (hS.2.2.2.2.2 r hr).2.1; omega⟩)).mono ?_
      rintro r A2 ⟨t1, t2, G1, G2, rfl, q1, q2, fr, hE2⟩
      have v2 := hE2.size
      simp (maxSteps := 2000000) (disch := first | omega | (simp only [AH.size_new, AH.size_put] <;> omega) | fail) only [amR Tryd.prog ro X, amS, seval, reduceCtorEq, ty3, ty4, ty9, ty47, ty53, ty55, ty88, hE1.get, hE2.get]
      refine (l4Put_a _ (by first | omega | (simp only [AH.size_new, AH.size_put] <;> omega)) t1 t2 x G1 G2 q1 q2 (by omega) t ht).mono ?_
      rintro r A3 ⟨cs, G, rfl, hr, hG, hE3⟩
      have v3 := hE3.size
      rw [putT_ok hS (by omega)]
      obtain ⟨u1, u2, K1, K2, rfl, rfl, y1, y2, y3, y4⟩ := rep_Kept.1 hr
      simp (maxSteps := 2000000) (disch := first | omega | (simp only [AH.size_new, AH.size_put] <;> omega) | fail) only [amR Tryd.prog ro X, amS, seval, reduceCtorEq, ty3, ty4, ty9, ty47, ty53, ty55, ty88, hE1.get, hE2.get, hE3.get]
      have hlo : ∀ b ∈ K1 ++ K2, A1.size ≤ b := fun b hb => by
        rcases hG b hb with h | h
        · exact fr.lo b h
        · omega
      exact ⟨_, K1 ++ K2, rfl, rep_Kept.2 ⟨u1, u2, K1, K2, rfl, rfl, y1.extx ((ExtX.refl [A.size + 1] _).put (by simp) _) (fun b hb => by have := hlo b (by simp [hb]); simp; omega), y2.extx ((ExtX.refl [A.size + 1] _).put (by simp) _) (fun b hb => by have := hlo b (by simp [hb]); simp; omega), y3, y4⟩, (by ((repeat' (first | exact Ext.refl _ | assumption | refine Ext.trans ?_ (Ext.new _ _) | refine Ext.put ?_ ?_ _ | refine Ext.trans ?_ (by assumption))) <;> (first | omega | (simp only [AH.size_new, AH.size_put] <;> omega))))⟩
  · simp (maxSteps := 2000000) (disch := first | omega | (simp only [AH.size_new, AH.size_put] <;> omega) | fail) only [amR Tryd.prog ro X, amS, seval, reduceCtorEq, ty3, ty4, ty9, ty47, ty53, ty55, ty88, hE1.get, hS]
    exact ⟨_, [], rfl, by rw [putT_bad (.inl hS)]; exact bare_rep _ 1 _ _ e0 e0, (by ((repeat' (first | exact Ext.refl _ | assumption | refine Ext.trans ?_ (Ext.new _ _) | refine Ext.put ?_ ?_ _ | refine Ext.trans ?_ (by assumption))) <;> (first | omega | (simp only [AH.size_new, AH.size_put] <;> omega))))⟩
theorem impl_a (A : AH) (hro : ro ≤ A.size) (hT : Tab 0 A) (s1 s2 : Sl) (x : TStore) (F1 F2 : List Nat) (h1 : SlR A s1 x.2.1 F1) (h2 : SlR A s2 x.2.2 F2) (hp : ∀ r ∈ x.2.2, r.1.length < 4294967296) (t : ByteArray) (ht : t.size < 4611686018427387904) :
    ACalls Tryd.prog ro X 52 [.agg #[.int .i64 x.1, s1.v, s2.v], .string t] A (fun r A' => ∃ cs G, r = .ret (.agg cs.toArray) ∧ Dat.rep A' (putT x t) cs G ∧ Fresh A G A' ∧ Ext A A') := by
  refine ACalls.enterQ (rs := [.cell 4 88]) Tryd.func52 rfl (by kernel_rfl) rfl ?_
  simp (maxSteps := 2000000) (disch := first | omega | (simp only [AH.size_new, AH.size_put] <;> omega) | fail) only [amR Tryd.prog ro X, amS, seval, reduceCtorEq, ty3, ty4, ty9, ty47, ty53, ty55, ty88]
  refine (Store.implStore_a _ (by first | omega | (simp only [AH.size_new, AH.size_put] <;> omega)) (hT.ext (by ((repeat' (first | exact Ext.refl _ | assumption | refine Ext.trans ?_ (Ext.new _ _) | refine Ext.put ?_ ?_ _ | refine Ext.trans ?_ (by assumption))) <;> (first | omega | (simp only [AH.size_new, AH.size_put] <;> omega))))) s1 s2 x F1 F2 (h1.ext (by ((repeat' (first | exact Ext.refl _ | assumption | refine Ext.trans ?_ (Ext.new _ _) | refine Ext.put ?_ ?_ _ | refine Ext.trans ?_ (by assumption))) <;> (first | omega | (simp only [AH.size_new, AH.size_put] <;> omega))))) (h2.ext (by ((repeat' (first | exact Ext.refl _ | assumption | refine Ext.trans ?_ (Ext.new _ _) | refine Ext.put ?_ ?_ _ | refine Ext.trans ?_ (by assumption))) <;> (first | omega | (simp only [AH.size_new, AH.size_put] <;> omega)))))).mono ?_
  rintro r A1 ⟨rfl, hE1⟩
  have v1 := hE1.size
  simp only [AH.size_new] at v1
  by_cases hS : StoreOk x
  · by_cases k2 : (2002 : Int) < t.size
    · simp (maxSteps := 2000000) (disch := first | omega | (simp only [AH.size_new, AH.size_put] <;> omega) | fail) only [amR Tryd.prog ro X, amS, seval, reduceCtorEq, ty3, ty4, ty9, ty47, ty53, ty55, ty88, hE1.get, hS, k2]
      exact ⟨_, [], rfl, by rw [putT_bad (.inr (by omega))]; exact bare_rep _ 1 _ _ e0 e0, Fresh.nil _ _, (by ((repeat' (first | exact Ext.refl _ | assumption | refine Ext.trans ?_ (Ext.new _ _) | refine Ext.put ?_ ?_ _ | refine Ext.trans ?_ (by assumption))) <;> (first | omega | (simp only [AH.size_new, AH.size_put] <;> omega))))⟩
    · simp (maxSteps := 2000000) (disch := first | omega | (simp only [AH.size_new, AH.size_put] <;> omega) | fail) only [amR Tryd.prog ro X, amS, seval, reduceCtorEq, ty3, ty4, ty9, ty47, ty53, ty55, ty88, hE1.get, hS, k2]
      have hlr : x.2.2.length ≤ 2000 := hS.2.2.1
      have hlt : x.2.1.length ≤ 5000 := hS.2.1
      refine (impl.copyStore_a _ (by first | omega | (simp only [AH.size_new, AH.size_put] <;> omega)) s1 s2 x F1 F2 (h1.ext (by ((repeat' (first | exact Ext.refl _ | assumption | refine Ext.trans ?_ (Ext.new _ _) | refine Ext.put ?_ ?_ _ | refine Ext.trans ?_ (by assumption))) <;> (first | omega | (simp only [AH.size_new, AH.size_put] <;> omega))))) (h2.ext (by ((repeat' (first | exact Ext.refl _ | assumption | refine Ext.trans ?_ (Ext.new _ _) | refine Ext.put ?_ ?_ _ | refine Ext.trans ?_ (by assumption))) <;> (first | omega | (simp only [AH.size_new, AH.size_put] <;> omega))))) (by omega) (by omega) (fun r hr => ⟨hp r hr, by have := (hS.2.2.2.2.2 r hr).2.1; omega⟩)).mono ?_
      rintro r A2 ⟨t1, t2, G1, G2, rfl, q1, q2, fr, hE2⟩
      have v2 := hE2.size
      have g1 := (hE2.get (A.size + 1) (by first | omega | (simp only [AH.size_new, AH.size_put] <;> omega))).trans ((hE1.get (A.size + 1) (by first | omega | (simp only [AH.size_new, AH.size_put] <;> omega))).trans (AH.get_new_self _ _))
      simp (maxSteps := 2000000) (disch := first | omega | (simp only [AH.size_new, AH.size_put] <;> omega) | fail) only [amR Tryd.prog ro X, amS, seval, reduceCtorEq, ty3, ty4, ty9, ty47, ty53, ty55, ty88, hE1.get, hE2.get]
      generalize hB : (A2.new _).put A2.size _ = B
      have hEB : Ext A2 B := by rw [← hB]; exact (by ((repeat' (first | exact Ext.refl _ | assumption | refine Ext.trans ?_ (Ext.new _ _) | refine Ext.put ?_ ?_ _ | refine Ext.trans ?_ (by assumption))) <;> (first | omega | (simp only [AH.size_new, AH.size_put] <;> omega))))
      have zB : B.size = A2.size + 1 := by rw [← hB]; rfl
      have gB : B.get A2.size = .cells [.int .i64 x.1, t1.v, t2.v] 3 := by rw [← hB]; exact AH.get_put_self _ _ _
      refine (put_a _ (by first | omega | (simp only [AH.size_new, AH.size_put] <;> omega)) A2.size (by first | omega | (simp only [AH.size_new, AH.size_put] <;> omega)) (by first | omega | (simp only [AH.size_new, AH.size_put] <;> omega)) x.1 t1 t2.v rfl x.2.1 G1 (q1.ext hEB) (fun hm => by have := fr.hi _ (by simp [hm] : A2.size ∈ G1 ++ G2); omega) gB hS.2.2.2.1 (by omega) t ht).mono ?_
      rintro r A3 ⟨u, K, rfl, g3, y1, hK, hX⟩
      have v3 := hX.size
      rw [putT_ok hS (by omega)]
      have g2 := (hX.get (A.size + 1) (by omega) (by simp; omega)).trans ((hEB.get (A.size + 1) (by omega)).trans g1)
      have hEF : ∀ (H : AH) (o : AObj), H = A3.put (A.size + 1) o → Ext A H := fun H o e => by
        subst e
        exact ⟨(by first | omega | (simp only [AH.size_new, AH.size_put] <;> omega)), fun b hb => by rw [AH.get_put_other (by omega)]; exact (hX.get b (by omega) (by simp; omega)).trans ((hEB.get b (by omega)).trans ((hE2.get b (by first | omega | (simp only [AH.size_new, AH.size_put] <;> omega))).trans ((hE1.get b (by first | omega | (simp only [AH.size_new, AH.size_put] <;> omega))).trans (by rw [AH.get_new_other (by simp only [AH.size_new]; omega), AH.get_new_other (by omega)]))))⟩
      have hKlo : ∀ b ∈ K, A1.size ≤ b ∧ b < A3.size ∧ b ∉ G2 := fun b hb => by
        rcases hK with rfl | hK
        · have := fr.lo b (by simp [hb]); have := fr.hi b (by simp [hb])
          refine ⟨by omega, by omega, fun hm => ?_⟩
          have := List.nodup_append.1 fr.nodup
          exact this.2.2 b hb b hm rfl
        · have := hK.lo b hb; have := hK.hi b hb
          refine ⟨by omega, by omega, fun hm => ?_⟩
          have := fr.hi b (by simp [hm]); omega
      have hKn : K.Nodup := by
        rcases hK with rfl | hK
        · exact (List.nodup_append.1 fr.nodup).1
        · exact hK.nodup
      have hG2 : ∀ b ∈ G2, A1.size ≤ b ∧ b < A2.size := fun b hb => ⟨fr.lo b (by simp [hb]), fr.hi b (by simp [hb])⟩
      have hfrK : ∀ (H : AH), A3.size ≤ H.size → Fresh A (K ++ G2) H := fun H hH => ⟨List.nodup_append.2 ⟨hKn, (List.nodup_append.1 fr.nodup).2.1, fun a ha b hb e => (hKlo a ha).2.2 (e ▸ hb)⟩, fun b hb => by
        rcases List.mem_append.1 hb with h | h
        · have := (hKlo b h).1; omega
        · have := (hG2 b h).1; omega, fun b hb => by
        rcases List.mem_append.1 hb with h | h
        · have := (hKlo b h).2.1; omega
        · have := (hG2 b h).2; omega⟩
      have y2 : SlR A3 t2 x.2.2 G2 := (q2.ext hEB).extx hX (fun b hb => by have := (hG2 b hb).2; simp; omega)
      have fin : ∀ o, Dat.rep (A3.put (A.size + 1) o) ((0, (x.1, putTexts x.1 x.2.1 t, x.2.2), ⟨#[]⟩, ⟨#[]⟩) : TKept) [.int .i64 0, .int .i64 x.1, u.v, t2.v, .string ⟨#[]⟩, .string ⟨#[]⟩] (K ++ G2) := fun o =>
        rep_Kept.2 ⟨u, t2, K, G2, rfl, rfl, y1.extx ((ExtX.refl [A.size + 1] _).put (by simp) _) (fun b hb => by have := (hKlo b hb).1; simp; omega), y2.extx ((ExtX.refl [A.size + 1] _).put (by simp) _) (fun b hb => by have := (hG2 b hb).1; simp; omega), e0, e0⟩
      cases hk : putKind x.1 x.2.1 t with
      | clash o =>
        have ho : o.size < BIG := by
          unfold putKind at hk
          cases hg : getR x.1 (sumS t x.1) x.2.1 with
          | none => rw [hg] at hk; simp only at hk; split at hk <;> cases hk
          | some o' =>
            rw [hg] at hk
            simp only at hk
            split at hk
            · cases hk
            · cases hk
              have := hS.2.2.2.2.1 _ (getR_mem hg).1
              unfold BIG; omega
        simp (maxSteps := 2000000) (disch := first | omega | (simp only [AH.size_new, AH.size_put] <;> omega) | fail) only [amR Tryd.prog ro X, amS, seval, reduceCtorEq, ty3, ty4, ty9, ty47, ty53, ty55, ty88, g2, putCode, putOther]
        exact ⟨_, [], rfl, by rw [putR, hk]; exact bare_rep _ 2 _ _ ho ht, Fresh.nil _ _, hEF _ _ rfl⟩
      | full =>
        simp (maxSteps := 2000000) (disch := first | omega | (simp only [AH.size_new, AH.size_put] <;> omega) | fail) only [amR Tryd.prog ro X, amS, seval, reduceCtorEq, ty3, ty4, ty9, ty47, ty53, ty55, ty88, g2, putCode, putOther]
        exact ⟨_, [], rfl, by rw [putR, hk]; exact bare_rep _ 3 _ _ e0 e0, Fresh.nil _ _, hEF _ _ rfl⟩
      | same =>
        simp (maxSteps := 2000000) (disch := first | omega | (simp only [AH.size_new, AH.size_put] <;> omega) | fail) only [amR Tryd.prog ro X, amS, seval, reduceCtorEq, ty3, ty4, ty9, ty47, ty53, ty55, ty88, g2, g3, putCode, putOther]
        refine ⟨_, K ++ G2, rfl, ?_, hfrK _ (by first | omega | (simp only [AH.size_new, AH.size_put] <;> omega)), hEF _ _ rfl⟩
        have := fin (.cells [.int .i64 0, .int .i64 x.1, u.v, t2.v, .string ByteArray.empty, .string ByteArray.empty] 6)
        rw [putTexts, hk] at this
        rw [putR, hk]
        exact this
      | put =>
        simp (maxSteps := 2000000) (disch := first | omega | (simp only [AH.size_new, AH.size_put] <;> omega) | fail) only [amR Tryd.prog ro X, amS, seval, reduceCtorEq, ty3, ty4, ty9, ty47, ty53, ty55, ty88, g2, g3, putCode, putOther]
        refine ⟨_, K ++ G2, rfl, ?_, hfrK _ (by first | omega | (simp only [AH.size_new, AH.size_put] <;> omega)), hEF _ _ rfl⟩
        have := fin (.cells [.int .i64 0, .int .i64 x.1, u.v, t2.v, .string ByteArray.empty, .string ByteArray.empty] 6)
        rw [putTexts, hk] at this
        rw [putR, hk]
        exact this
  · simp (maxSteps := 2000000) (disch := first | omega | (simp only [AH.size_new, AH.size_put] <;> omega) | fail) only [amR Tryd.prog ro X, amS, seval, reduceCtorEq, ty3, ty4, ty9, ty47, ty53, ty55, ty88, hE1.get, hS]
    exact ⟨_, [], rfl, by rw [putT_bad (.inl hS)]; exact bare_rep _ 1 _ _ e0 e0, Fresh.nil _ _, (by ((repeat' (first | exact Ext.refl _ | assumption | refine Ext.trans ?_ (Ext.new _ _) | refine Ext.put ?_ ?_ _ | refine Ext.trans ?_ (by assumption))) <;> (first | omega | (simp only [AH.size_new, AH.size_put] <;> omega))))⟩
end Go.Proofs.YtcdnlghlbljopaaDoor.Amu.Put
