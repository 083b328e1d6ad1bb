/- Two stores merged. -/
import Derived.Test.YtcdnlghlbljopaaDoorAmMerge
import Derived.Test.YtcdnlghlbljopaaDoorAmuPut
import Derived.Test.YtcdnlghlbljopaaDoorAmuSame
import Derived.Test.YtcdnlghlbljopaaDoorAmuGet
namespace Go.Proofs.YtcdnlghlbljopaaDoor.Amu.Merge
open Go Go.AM Go.Proofs
set_option linter.unusedVariables false
set_option linter.unusedSimpArgs false
theorem ty3 : tKind Tryd.prog 3 = some (.int .i64) ∧ tSize Tryd.prog 3 = some 1 ∧ tAgg Tryd.prog 3 = some false ∧ tZero Tryd.prog 3 = some (.int .i64 0) := ⟨by kernel_rfl, by kernel_rfl, by kernel_rfl, by kernel_rfl⟩
theorem ty4 : tKind Tryd.prog 4 = some (.bool) ∧ tSize Tryd.prog 4 = some 1 ∧ tAgg Tryd.prog 4 = some false ∧ tZero Tryd.prog 4 = some (.bool false) := ⟨by kernel_rfl, by kernel_rfl, by kernel_rfl, by kernel_rfl⟩
theorem ty9 : tKind Tryd.prog 9 = some (.str) ∧ tSize Tryd.prog 9 = some 1 ∧ tAgg Tryd.prog 9 = some false ∧ tZero Tryd.prog 9 = some (.string ByteArray.empty) := ⟨by kernel_rfl, by kernel_rfl, by kernel_rfl, by kernel_rfl⟩
theorem ty29 : tKind Tryd.prog 29 = some (.struct) ∧ tSize Tryd.prog 29 = some 1 ∧ tAgg Tryd.prog 29 = some true ∧ tZero Tryd.prog 29 = some (.agg #[.slice none 0 0]) ∧ tField Tryd.prog 29 0 = some (0, 27) ∧ tPlaces Tryd.prog 29 = some [(0, 1)] := ⟨by kernel_rfl, by kernel_rfl, by kernel_rfl, by kernel_rfl, by kernel_rfl, by kernel_rfl⟩
theorem ty47 : tKind Tryd.prog 47 = some (.slice) ∧ tSize Tryd.prog 47 = some 1 ∧ tAgg Tryd.prog 47 = some false ∧ tZero Tryd.prog 47 = some (.slice none 0 0) ∧ tElem Tryd.prog 47 = some 9 ∧ tElemSize Tryd.prog 47 = some 1 ∧ tBytes Tryd.prog 47 = false := ⟨by kernel_rfl, by kernel_rfl, by kernel_rfl, by kernel_rfl, by kernel_rfl, by kernel_rfl, by kernel_rfl⟩
theorem ty53 : tKind Tryd.prog 53 = some (.slice) ∧ tSize Tryd.prog 53 = some 1 ∧ tAgg Tryd.prog 53 = some false ∧ tZero Tryd.prog 53 = some (.slice none 0 0) ∧ tElem Tryd.prog 53 = some 69 ∧ tElemSize Tryd.prog 53 = some 3 ∧ tBytes Tryd.prog 53 = false := ⟨by kernel_rfl, by kernel_rfl, by kernel_rfl, by kernel_rfl, by kernel_rfl, by kernel_rfl, by kernel_rfl⟩
theorem ty55 : tKind Tryd.prog 55 = some (.struct) ∧ tSize Tryd.prog 55 = some 3 ∧ tAgg Tryd.prog 55 = some true ∧ tZero Tryd.prog 55 = some (.agg #[.int .i64 0, .slice none 0 0, .slice none 0 0]) ∧ tField Tryd.prog 55 0 = some (0, 3) ∧ tField Tryd.prog 55 1 = some (1, 47) ∧ tField Tryd.prog 55 2 = some (2, 53) ∧ tPlaces Tryd.prog 55 = some [(0, 1), (1, 1), (2, 1)] := ⟨by kernel_rfl, by kernel_rfl, by kernel_rfl, by kernel_rfl, by kernel_rfl, by kernel_rfl, by kernel_rfl, by kernel_rfl⟩
theorem ty67 : tKind Tryd.prog 67 = some (.slice) ∧ tSize Tryd.prog 67 = some 1 ∧ tAgg Tryd.prog 67 = some false ∧ tZero Tryd.prog 67 = some (.slice none 0 0) ∧ tElem Tryd.prog 67 = some 153 ∧ tElemSize Tryd.prog 67 = some 3 ∧ tBytes Tryd.prog 67 = false := ⟨by kernel_rfl, by kernel_rfl, by kernel_rfl, by kernel_rfl, by kernel_rfl, by kernel_rfl, by kernel_rfl⟩
theorem ty69 : tKind Tryd.prog 69 = some (.struct) ∧ tSize Tryd.prog 69 = some 3 ∧ tAgg Tryd.prog 69 = some true ∧ tZero Tryd.prog 69 = some (.agg #[.slice none 0 0, .slice none 0 0, .string ByteArray.empty]) ∧ tField Tryd.prog 69 0 = some (0, 29) ∧ tField Tryd.prog 69 1 = some (1, 67) ∧ tField Tryd.prog 69 2 = some (2, 9) ∧ tPlaces Tryd.prog 69 = some [(0, 1), (1, 1), (2, 1)] := ⟨by kernel_rfl, by kernel_rfl, by kernel_rfl, by kernel_rfl, by kernel_rfl, by kernel_rfl, by kernel_rfl, by kernel_rfl⟩
theorem ty88 : tKind Tryd.prog 88 = some (.struct) ∧ tSize Tryd.prog 88 = some 6 ∧ tAgg Tryd.prog 88 = some true ∧ tZero Tryd.prog 88 = some (.agg #[.int .i64 0, .int .i64 0, .slice none 0 0, .slice none 0 0, .string ByteArray.empty, .string ByteArray.empty]) ∧ tField Tryd.prog 88 0 = some (0, 3) ∧ tField Tryd.prog 88 1 = some (1, 55) ∧ tField Tryd.prog 88 2 = some (4, 9) ∧ tField Tryd.prog 88 3 = some (5, 9) ∧ tPlaces Tryd.prog 88 = some [(0, 1), (1, 3), (4, 1), (5, 1)] := ⟨by kernel_rfl, by kernel_rfl, by kernel_rfl, by kernel_rfl, by kernel_rfl, by kernel_rfl, by kernel_rfl, by kernel_rfl, by kernel_rfl⟩

variable {ro : Nat} {X : FuncId → List Value → AH → ARes → AH → Prop}
set_option maxRecDepth 10000
set_option maxHeartbeats 4000000
theorem mergeR_1 {x y : TStore} (h : ¬ StoreOk x ∨ ¬ StoreOk y ∨ x.1 ≠ y.1) : mergeR x y = (1, zeroSt, ⟨#[]⟩, ⟨#[]⟩) := if_pos h
theorem mergeR_2 {x y : TStore} (h : StoreOk x) (k : StoreOk y) (hw : x.1 = y.1) {z : ByteArray × ByteArray} (hc : clash1 x.1 x.2.1 y.2.1 = some z) : mergeR x y = (2, zeroSt, z.1, z.2) := by
  rw [mergeR, if_neg (by rintro (q | q | q); exact q h; exact q k; exact q hw), hc]
theorem mergeR_3 {x y : TStore} (h : StoreOk x) (k : StoreOk y) (hw : x.1 = y.1) (hc : clash1 x.1 x.2.1 y.2.1 = none) (hl : 5000 < (insAll x.1 x.2.1 y.2.1).length ∨ 2000 < (x.2.2 ++ newRecs x.2.2 y.2.2).length) : mergeR x y = (3, zeroSt, ⟨#[]⟩, ⟨#[]⟩) := by
  rw [mergeR, if_neg (by rintro (q | q | q); exact q h; exact q k; exact q hw), hc]; simp only; rw [if_pos hl]
theorem mergeR_0 {x y : TStore} (h : StoreOk x) (k : StoreOk y) (hw : x.1 = y.1) (hc : clash1 x.1 x.2.1 y.2.1 = none) (hl : ¬ (5000 < (insAll x.1 x.2.1 y.2.1).length ∨ 2000 < (x.2.2 ++ newRecs x.2.2 y.2.2).length)) : mergeR x y = (0, (x.1, insAll x.1 x.2.1 y.2.1, x.2.2 ++ newRecs x.2.2 y.2.2), ⟨#[]⟩, ⟨#[]⟩) := by
  rw [mergeR, if_neg (by rintro (q | q | q); exact q h; exact q k; exact q hw), hc]; simp only; rw [if_neg hl]
theorem impl_a (A : AH) (hro : ro ≤ A.size) (hT : Tab 0 A) (s1 s2 u1 u2 : Sl) (x y : TStore) (F1 F2 K1 K2 : List Nat) (h1 : SlR A s1 x.2.1 F1) (h2 : SlR A s2 x.2.2 F2) (k1 : SlR A u1 y.2.1 K1) (k2 : SlR A u2 y.2.2 K2) (hp : ∀ r ∈ x.2.2, r.1.length < 4294967296) (hq : ∀ r ∈ y.2.2, r.1.length < 4294967296) :
    ACalls Tryd.prog ro X 64 [.agg #[.int .i64 x.1, s1.v, s2.v], .agg #[.int .i64 y.1, u1.v, u2.v]] A (fun r A' => ∃ cs G, r = .ret (.agg cs.toArray) ∧ Dat.rep A' (mergeR x y) cs G ∧ Fresh A G A' ∧ Ext A A') := by
  refine ACalls.enterQ (rs := [.cell 4 88]) Tryd.func64 rfl (by kernel_rfl) rfl ?_
  have hl1 := h1.len
  have hl2 := h2.len
  have kl1 := k1.len
  have kl2 := k2.len
  simp (maxSteps := 2000000) (disch := first | omega | (simp only [AH.size_new, AH.size_put] <;> omega) | fail) only [amR Tryd.prog ro X, amS, seval, reduceCtorEq, ty3, ty4, ty9, ty29, ty47, ty53, ty55, ty67, ty69, ty88]
  refine (Store.implStore_a _ (by first | omega | (simp only [AH.size_new, AH.size_put] <;> omega)) (hT.ext (by ((repeat' (first | exact Ext.refl _ | assumption | refine Ext.trans ?_ (Ext.new _ _) | refine Ext.put ?_ ?_ _ | refine Ext.trans ?_ (by assumption))) <;> (first | omega | (simp only [AH.size_new, AH.size_put] <;> omega))))) s1 s2 x F1 F2 (h1.ext (by ((repeat' (first | exact Ext.refl _ | assumption | refine Ext.trans ?_ (Ext.new _ _) | refine Ext.put ?_ ?_ _ | refine Ext.trans ?_ (by assumption))) <;> (first | omega | (simp only [AH.size_new, AH.size_put] <;> omega))))) (h2.ext (by ((repeat' (first | exact Ext.refl _ | assumption | refine Ext.trans ?_ (Ext.new _ _) | refine Ext.put ?_ ?_ _ | refine Ext.trans ?_ (by assumption))) <;> (first | omega | (simp only [AH.size_new, AH.size_put] <;> omega)))))).mono ?_
  rintro r A1 ⟨rfl, hE1⟩
  have v1 := hE1.size
  simp only [AH.size_new] at v1
  by_cases hS : StoreOk x
  · simp (maxSteps := 2000000) (disch := first | omega | (simp only [AH.size_new, AH.size_put] <;> omega) | fail) only [amR Tryd.prog ro X, amS, seval, reduceCtorEq, ty3, ty4, ty9, ty29, ty47, ty53, ty55, ty67, ty69, ty88, hE1.get, hS]
    refine (Store.implStore_a _ (by first | omega | (simp only [AH.size_new, AH.size_put] <;> omega)) (hT.ext (by ((repeat' (first | exact Ext.refl _ | assumption | refine Ext.trans ?_ (Ext.new _ _) | refine Ext.put ?_ ?_ _ | refine Ext.trans ?_ (by assumption))) <;> (first | omega | (simp only [AH.size_new, AH.size_put] <;> omega))))) u1 u2 y K1 K2 (k1.ext (by ((repeat' (first | exact Ext.refl _ | assumption | refine Ext.trans ?_ (Ext.new _ _) | refine Ext.put ?_ ?_ _ | refine Ext.trans ?_ (by assumption))) <;> (first | omega | (simp only [AH.size_new, AH.size_put] <;> omega))))) (k2.ext (by ((repeat' (first | exact Ext.refl _ | assumption | refine Ext.trans ?_ (Ext.new _ _) | refine Ext.put ?_ ?_ _ | refine Ext.trans ?_ (by assumption))) <;> (first | omega | (simp only [AH.size_new, AH.size_put] <;> omega)))))).mono ?_
    rintro r A2 ⟨rfl, hE2⟩
    have v2 := hE2.size
    by_cases hS2 : StoreOk y
    · by_cases hw : x.1 = y.1
      · simp (maxSteps := 2000000) (disch := first | omega | (simp only [AH.size_new, AH.size_put] <;> omega) | fail) only [amR Tryd.prog ro X, amS, seval, reduceCtorEq, ty3, ty4, ty9, ty29, ty47, ty53, ty55, ty67, ty69, ty88, hE1.get, hE2.get, hS2, hw, kl1]
        have hEA : Ext A A2 := (by ((repeat' (first | exact Ext.refl _ | assumption | refine Ext.trans ?_ (Ext.new _ _) | refine Ext.put ?_ ?_ _ | refine Ext.trans ?_ (by assumption))) <;> (first | omega | (simp only [AH.size_new, AH.size_put] <;> omega))))
        have ga : A2.get A.size = .cells [.int .i64 x.1, s1.v, s2.v] 3 := by rw [hE2.get _ (by first | omega | (simp only [AH.size_new, AH.size_put] <;> omega)), hE1.get _ (by first | omega | (simp only [AH.size_new, AH.size_put] <;> omega)), AH.get_new_other (by simp only [AH.size_new]; omega), AH.get_new_other (by simp only [AH.size_new]; omega)]; exact AH.get_new_self _ _
        have gb : A2.get (A.size + 1) = .cells [.int .i64 y.1, u1.v, u2.v] 3 := by rw [hE2.get _ (by first | omega | (simp only [AH.size_new, AH.size_put] <;> omega)), hE1.get _ (by first | omega | (simp only [AH.size_new, AH.size_put] <;> omega)), AH.get_new_other (by simp only [AH.size_new]; omega)]; exact AH.get_new_self _ _
        have gc : A2.get (A.size + 1 + 1) = .cells [.int .i64 0, .int .i64 0, Sl.nil.v, Sl.nil.v, .string ByteArray.empty, .string ByteArray.empty] 6 := by rw [hE2.get _ (by first | omega | (simp only [AH.size_new, AH.size_put] <;> omega)), hE1.get _ (by first | omega | (simp only [AH.size_new, AH.size_put] <;> omega))]; exact AH.get_new_self _ _
        clear hE1 hE2
        have v2 : A.size + 3 ≤ A2.size := by omega
        have hlt : x.2.1.length ≤ 5000 := hS.2.1
        have hlt2 : y.2.1.length ≤ 5000 := hS2.2.1
        refine Wp.loopC (fun n e H => Ext A2 H ∧ e 2 = .pointer (some ⟨A.size, 0, none⟩) ∧ e 3 = .pointer (some ⟨A.size + 1, 0, none⟩) ∧ e 4 = .pointer (some ⟨A.size + 1 + 1, 0, none⟩) ∧ e 36 = u1.v ∧ e 37 = .int .i64 y.2.1.length ∧ ∃ i : Nat, i ≤ y.2.1.length ∧ n = y.2.1.length - i ∧ e 38 = .int .i64 i ∧ clash1 x.1 x.2.1 (y.2.1.take i) = none) (y.2.1.length - 0) ?_ ?_
        · simp (maxSteps := 2000000) (disch := first | omega | (simp only [AH.size_new, AH.size_put] <;> omega) | fail) only [amV, amH, amQ, amL, amN Tryd.prog, amS, seval, reduceCtorEq, ty3, ty4, ty9, ty29, ty47, ty53, ty55, ty67, ty69, ty88, kl1]
          exact ⟨Ext.refl _, 0, by omega, rfl, rfl, rfl⟩
        · rintro n e H ⟨hEH, e2, e3, e4, e36, e37, i, hi, rfl, e38, hcl⟩
          have zH := hEH.size
          have gaH := (hEH.get A.size (by omega)).trans ga
          simp (maxSteps := 2000000) (disch := first | omega | (simp only [AH.size_new, AH.size_put] <;> omega) | fail) only [amR Tryd.prog ro X, amS, seval, reduceCtorEq, ty3, ty4, ty9, ty29, ty47, ty53, ty55, ty67, ty69, ty88, e37, e38]
          refine CondB.split (fun h => ?_) (fun h => ?_)
          · have hil : i < y.2.1.length := by simpa using h
            obtain ⟨n1, b1, m1, i1, c1, q1⟩ := (k1.ext (hEA.trans hEH)).str hil
            rw [aCell_eq] at c1
            simp (maxSteps := 2000000) (disch := first | omega | (simp only [AH.size_new, AH.size_put] <;> omega) | fail) only [amR Tryd.prog ro X, amS, seval, reduceCtorEq, ty3, ty4, ty9, ty29, ty47, ty53, ty55, ty67, ty69, ty88, e2, e3, e4, e36, e37, e38, n1, c1]
            refine WpH (H.size) [4] (by kernel_rfl) (.inl (by kernel_rfl)) ?_
            simp (maxSteps := 2000000) (disch := first | omega | (simp only [AH.size_new, AH.size_put] <;> omega) | fail) only [amX2 Tryd.prog ro X, amX Tryd.prog ro X, amR Tryd.prog ro X, amS, seval, reduceCtorEq, ty3, ty4, ty9, ty29, ty47, ty53, ty55, ty67, ty69, ty88, e2, e3, e4, e36, e37, e38, gaH]
            refine (Sum.impl_a _ (by first | omega | (simp only [AH.size_new, AH.size_put] <;> omega)) y.2.1[i] x.1 q1).mono ?_
            rintro r B1 ⟨rfl, hB1⟩
            have w1 := hB1.size
            simp (maxSteps := 2000000) (disch := first | omega | (simp only [AH.size_new, AH.size_put] <;> omega) | fail) only [amX2 Tryd.prog ro X, amX Tryd.prog ro X, amR Tryd.prog ro X, amS, seval, reduceCtorEq, ty3, ty4, ty9, ty29, ty47, ty53, ty55, ty67, ty69, ty88, e2, e3, e4, e36, e37, e38, gaH]
            refine ⟨fun b hb => hB1.get b hb, ?_⟩
            refine (Place.get_a _ (by first | omega | (simp only [AH.size_new, AH.size_put] <;> omega)) x.1 s1 s2.v rfl (sumS y.2.1[i] x.1) x.2.1 F1 (h1.ext (hEA.trans (hEH.trans hB1))) hS.2.2.2.1 (by omega)).mono ?_
            rintro r B2 ⟨rfl, hB2⟩
            have w2 := hB2.size
            have hsucc := clash1_succ hil hcl
            cases hg : getR x.1 (sumS y.2.1[i] x.1) x.2.1 with
            | none =>
              rw [hg] at hsucc
              simp (maxSteps := 2000000) (disch := first | omega | (simp only [AH.size_new, AH.size_put] <;> omega) | fail) only [amX2 Tryd.prog ro X, amX Tryd.prog ro X, amR Tryd.prog ro X, amS, seval, reduceCtorEq, ty3, ty4, ty9, ty29, ty47, ty53, ty55, ty67, ty69, ty88, e2, e3, e4, e36, e37, e38, Place.getV, Option.isSome_none]
              exact ⟨y.2.1.length - (i + 1), by omega, hEH.trans (hB1.trans hB2), i + 1, by omega, rfl, by simp, hsucc⟩
            | some o =>
              rw [hg] at hsucc
              simp only at hsucc
              by_cases ho : o = y.2.1[i]
              · rw [if_pos ho] at hsucc
                simp (maxSteps := 2000000) (disch := first | omega | (simp only [AH.size_new, AH.size_put] <;> omega) | fail) only [amX2 Tryd.prog ro X, amX Tryd.prog ro X, amR Tryd.prog ro X, amS, seval, reduceCtorEq, ty3, ty4, ty9, ty29, ty47, ty53, ty55, ty67, ty69, ty88, e2, e3, e4, e36, e37, e38, Place.getV, Option.isSome_some, Option.getD_some, ho]
                exact ⟨y.2.1.length - (i + 1), by omega, hEH.trans (hB1.trans hB2), i + 1, by omega, rfl, by simp, hsucc⟩
              · rw [if_neg ho] at hsucc
                have gcH := (hB2.get (A.size + 1 + 1) (by omega)).trans ((hB1.get (A.size + 1 + 1) (by omega)).trans ((hEH.get (A.size + 1 + 1) (by omega)).trans gc))
                simp (maxSteps := 2000000) (disch := first | omega | (simp only [AH.size_new, AH.size_put] <;> omega) | fail) only [amX2 Tryd.prog ro X, amX Tryd.prog ro X, amR Tryd.prog ro X, amS, seval, reduceCtorEq, ty3, ty4, ty9, ty29, ty47, ty53, ty55, ty67, ty69, ty88, e2, e3, e4, e36, e37, e38, Place.getV, Option.isSome_some, Option.getD_some, ho, gcH]
                have hfound := clash1_found hsucc
                have hoz : o.size < BIG := by have := hS.2.2.2.2.1 _ (getR_mem hg).1; unfold BIG; omega
                exact ⟨_, [], rfl, by rw [mergeR_2 hS hS2 hw hfound]; exact Put.bare_rep _ 2 _ _ hoz q1, Fresh.nil _ _, (by ((repeat' (first | exact Ext.refl _ | assumption | refine Ext.trans ?_ (Ext.new _ _) | refine Ext.put ?_ ?_ _ | refine Ext.trans ?_ (by assumption))) <;> (first | omega | (simp only [AH.size_new, AH.size_put] <;> omega))))⟩
          · have hil : i = y.2.1.length := by simp at h; omega
            subst hil
            rw [List.take_length] at hcl
            have gbH := (hEH.get (A.size + 1) (by omega)).trans gb
            have gcH := (hEH.get (A.size + 1 + 1) (by omega)).trans gc
            have hEAH := hEA.trans hEH
            have hlr : x.2.2.length ≤ 2000 := hS.2.2.1
            have hlr2 : y.2.2.length ≤ 2000 := hS2.2.2.1
            simp (maxSteps := 2000000) (disch := first | omega | (simp only [AH.size_new, AH.size_put] <;> omega) | fail) only [amR Tryd.prog ro X, amS, seval, reduceCtorEq, ty3, ty4, ty9, ty29, ty47, ty53, ty55, ty67, ty69, ty88, e2, e3, e4, gaH]
            refine (Put.impl.copyStore_acc _ (by first | omega | (simp only [AH.size_new, AH.size_put] <;> omega)) s1 s2 x F1 F2 (h1.ext hEAH) (h2.ext hEAH) (by omega) (by omega) (fun r hr => ⟨hp r hr, by have := (hS.2.2.2.2.2 r hr).2.1; omega⟩)).mono ?_
            rintro r B ⟨t1, t2, G1, G2, lo, rfl, q1, fr1, hlo, hG1, hacc, ⟨hn2, hG2⟩, hub, hle, hEB⟩
            have zB := hEB.size
            have gaB := (hEB.get A.size (by omega)).trans gaH
            have gbB := (hEB.get (A.size + 1) (by omega)).trans gbH
            have gcB := (hEB.get (A.size + 1 + 1) (by omega)).trans gcH
            have htb : t2.b < B.size := hacc.bub hub (by omega)
            simp (maxSteps := 2000000) (disch := first | omega | (simp only [AH.size_new, AH.size_put] <;> omega) | fail) only [amR Tryd.prog ro X, amS, seval, reduceCtorEq, ty3, ty4, ty9, ty29, ty47, ty53, ty55, ty67, ty69, ty88, e2, e3, e4, gbB, kl1]
            generalize hC : (B.new _).put B.size _ = C
            have hEC : Ext B C := by rw [← hC]; exact (by ((repeat' (first | exact Ext.refl _ | assumption | refine Ext.trans ?_ (Ext.new _ _) | refine Ext.put ?_ ?_ _ | refine Ext.trans ?_ (by assumption))) <;> (first | omega | (simp only [AH.size_new, AH.size_put] <;> omega))))
            have zC : C.size = B.size + 1 := by rw [← hC]; rfl
            have gpC : C.get B.size = .cells [.int .i64 x.1, t1.v, t2.v] 3 := by rw [← hC]; exact AH.get_put_self _ _ _
            have hEAC : Ext A C := hEAH.trans (hEB.trans hEC)
            have hR1 := hS.2.2.2.1
            have hR2 : Rising x.1 y.2.1 := by rw [hw]; exact hS2.2.2.2.1
            refine Wp.loopC (fun n e H2 => ExtX [B.size] C H2 ∧ e 2 = .pointer (some ⟨A.size, 0, none⟩) ∧ e 3 = .pointer (some ⟨A.size + 1, 0, none⟩) ∧ e 4 = .pointer (some ⟨A.size + 1 + 1, 0, none⟩) ∧ e 9 = .pointer (some ⟨B.size, 0, none⟩) ∧ e 64 = u1.v ∧ e 65 = .int .i64 y.2.1.length ∧
              ∃ i : Nat, i ≤ y.2.1.length ∧ n = y.2.1.length - i ∧ e 66 = .int .i64 i ∧ ∃ t K, SlR H2 t (insAll x.1 x.2.1 (y.2.1.take i)) K ∧ (K = G1 ∨ Fresh C K H2) ∧ (insAll x.1 x.2.1 (y.2.1.take i)).length ≤ 5000 ∧ H2.get B.size = .cells [.int .i64 x.1, t.v, t2.v] 3) (y.2.1.length - 0) ?_ ?_
            · simp (maxSteps := 2000000) (disch := first | omega | (simp only [AH.size_new, AH.size_put] <;> omega) | fail) only [amV, amH, amQ, amL, amN Tryd.prog, amS, seval, reduceCtorEq, ty3, ty4, ty9, ty29, ty47, ty53, ty55, ty67, ty69, ty88, kl1, e2, e3, e4]
              exact ⟨ExtX.refl _ _, 0, by omega, rfl, rfl, t1, G1, by simpa [insAll] using q1.ext hEC, .inl rfl, by simpa [insAll] using hlt, gpC⟩
            · clear e2 e3 e4 e36 e37 e38
              rintro n e H2 ⟨hX2, e2, e3, e4, e9, e64, e65, i, hi, rfl, e66, t, K, hK, hKf, hlen, gp⟩
              have z2 := hX2.size
              simp (maxSteps := 2000000) (disch := first | omega | (simp only [AH.size_new, AH.size_put] <;> omega) | fail) only [amR Tryd.prog ro X, amS, seval, reduceCtorEq, ty3, ty4, ty9, ty29, ty47, ty53, ty55, ty67, ty69, ty88, e65, e66]
              refine CondB.split (fun h => ?_) (fun h => ?_)
              · have hil : i < y.2.1.length := by simpa using h
                have k1' : SlR H2 u1 y.2.1 K1 := (k1.ext hEAC).extx hX2 (fun b hb => by have := k1.bound b hb; simp; omega)
                obtain ⟨n1, b1, m1, i1, c1, q2⟩ := k1'.str hil
                rw [aCell_eq] at c1
                simp (maxSteps := 2000000) (disch := first | omega | (simp only [AH.size_new, AH.size_put] <;> omega) | fail) only [amR Tryd.prog ro X, amS, seval, reduceCtorEq, ty3, ty4, ty9, ty29, ty47, ty53, ty55, ty67, ty69, ty88, e2, e3, e4, e9, e64, e65, e66, n1, c1]
                have hpK : B.size ∉ K := by
                  rcases hKf with rfl | h
                  · intro hm; have := fr1.hi _ hm; omega
                  · intro hm; have := h.lo _ hm; omega
                refine (Put.put_a _ (by first | omega | (simp only [AH.size_new, AH.size_put] <;> omega)) B.size (by omega) (by omega) x.1 t t2.v rfl _ K hK hpK gp (hR1.insAll) (by omega) y.2.1[i] q2).mono ?_
                rintro r H3 ⟨t', K', rfl, gp3, y1, hK', hX3⟩
                have z3 := hX3.size
                have hpk := putKind_merge hR1 hR2 hcl hil
                have hsucc := insAll_succ x.1 x.2.1 hil
                have hX3' : ExtX [B.size] C H3 := hX2.trans hX3
                have hKK : K' = G1 ∨ Fresh C K' H3 := by
                  rcases hK' with rfl | h
                  · exact hKf.imp id fun h => h.mono (Nat.le_refl _) z3
                  · exact .inr (h.mono z2 (Nat.le_refl _))
                by_cases hg : (getR x.1 (sumS y.2.1[i] x.1) (insAll x.1 x.2.1 (y.2.1.take i))).isSome = true
                · rw [if_pos hg] at hpk
                  have hins : insAll x.1 x.2.1 (y.2.1.take (i + 1)) = insAll x.1 x.2.1 (y.2.1.take i) := by
                    rw [hsucc, insU]
                    cases hgg : getR x.1 (sumS y.2.1[i] x.1) (insAll x.1 x.2.1 (y.2.1.take i)) with
                    | none => rw [hgg] at hg; cases hg
                    | some o => rfl
                  rw [putTexts, hpk] at y1
                  rw [hpk]
                  simp (maxSteps := 2000000) (disch := first | omega | (simp only [AH.size_new, AH.size_put] <;> omega) | fail) only [amR Tryd.prog ro X, amS, seval, reduceCtorEq, ty3, ty4, ty9, ty29, ty47, ty53, ty55, ty67, ty69, ty88, e2, e3, e4, e9, e64, e65, e66, putCode, putOther]
                  exact ⟨y.2.1.length - (i + 1), by omega, hX3', i + 1, by omega, rfl, by simp, t', K', by rw [hins]; exact y1, hKK, by rw [hins]; exact hlen, gp3⟩
                · rw [if_neg hg] at hpk
                  have hgn : getR x.1 (sumS y.2.1[i] x.1) (insAll x.1 x.2.1 (y.2.1.take i)) = none := by
                    cases hgg : getR x.1 (sumS y.2.1[i] x.1) (insAll x.1 x.2.1 (y.2.1.take i)) with
                    | none => rfl
                    | some o => rw [hgg] at hg; exact absurd rfl hg
                  have hins : insAll x.1 x.2.1 (y.2.1.take (i + 1)) = insR' x.1 (insAll x.1 x.2.1 (y.2.1.take i)) y.2.1[i] := by
                    rw [hsucc, insU, hgn]
                  by_cases hfull : 5000 ≤ (insAll x.1 x.2.1 (y.2.1.take i)).length
                  · rw [if_pos hfull] at hpk
                    rw [hpk]
                    have gc3 := (hX3'.get (A.size + 1 + 1) (by omega) (by simp; omega)).trans ((hEC.get _ (by omega)).trans gcB)
                    simp (maxSteps := 2000000) (disch := first | omega | (simp only [AH.size_new, AH.size_put] <;> omega) | fail) only [amR Tryd.prog ro X, amS, seval, reduceCtorEq, ty3, ty4, ty9, ty29, ty47, ty53, ty55, ty67, ty69, ty88, e2, e3, e4, e9, e64, e65, e66, putCode, putOther, gc3]
                    have hmono := insAll_mono x.1 x.2.1 y.2.1 (i + 1)
                    rw [hins, insR'_len] at hmono
                    refine ⟨_, [], rfl, by rw [mergeR_3 hS hS2 hw hcl (.inl (by omega))]; exact Put.bare_rep _ 3 _ _ Put.e0 Put.e0, Fresh.nil _ _, ⟨(by first | omega | (simp only [AH.size_new, AH.size_put] <;> omega)), fun b hb => ?_⟩⟩
                    rw [AH.get_put_other (by omega)]
                    exact (hX3'.get b (by omega) (by simp; omega)).trans (hEAC.get b hb)
                  · rw [if_neg hfull] at hpk
                    rw [putTexts, hpk] at y1
                    rw [hpk]
                    simp (maxSteps := 2000000) (disch := first | omega | (simp only [AH.size_new, AH.size_put] <;> omega) | fail) only [amR Tryd.prog ro X, amS, seval, reduceCtorEq, ty3, ty4, ty9, ty29, ty47, ty53, ty55, ty67, ty69, ty88, e2, e3, e4, e9, e64, e65, e66, putCode, putOther]
                    exact ⟨y.2.1.length - (i + 1), by omega, hX3', i + 1, by omega, rfl, by simp, t', K', by rw [hins]; exact y1, hKK, by rw [hins, insR'_len]; omega, gp3⟩
              · have hil : i = y.2.1.length := by simp at h; omega
                subst hil
                rw [List.take_length] at hK hlen
                have gb2 := (hX2.get (A.size + 1) (by omega) (by simp; omega)).trans ((hEC.get _ (by omega)).trans gbB)
                have ga2 := (hX2.get A.size (by omega) (by simp; omega)).trans ((hEC.get _ (by omega)).trans gaB)
                have gc2 := (hX2.get (A.size + 1 + 1) (by omega) (by simp; omega)).trans ((hEC.get _ (by omega)).trans gcB)
                have hEA2 : Ext A H2 := ⟨by have := hEAC.size; omega, fun b hb => (hX2.get b (by omega) (by simp; omega)).trans (hEAC.get b hb)⟩
                have hacc2 : Acc lo H2 t2 x.2.2 G2 := (hacc.ext hEC).frame z2 (fun b hb h => hX2.get b hb (by
                  rcases h with ⟨_, _, h⟩ | h
                  · simp; omega
                  · have := (hG2 b h).2; simp; omega))
                simp (maxSteps := 2000000) (disch := first | omega | (simp only [AH.size_new, AH.size_put] <;> omega) | fail) only [amR Tryd.prog ro X, amS, seval, reduceCtorEq, ty3, ty4, ty9, ty29, ty47, ty53, ty55, ty67, ty69, ty88, e2, e3, e4, e9, gb2, kl2]
                refine Wp.loopC (fun n e J => (H2.size ≤ J.size ∧ ∀ b, b < H2.size → b ≠ B.size → (b < lo ∨ b ≠ t2.b) → J.get b = H2.get b) ∧ e 2 = .pointer (some ⟨A.size, 0, none⟩) ∧ e 3 = .pointer (some ⟨A.size + 1, 0, none⟩) ∧ e 4 = .pointer (some ⟨A.size + 1 + 1, 0, none⟩) ∧ e 9 = .pointer (some ⟨B.size, 0, none⟩) ∧ e 80 = u2.v ∧ e 81 = .int .i64 y.2.2.length ∧
                  ∃ i : Nat, i ≤ y.2.2.length ∧ n = y.2.2.length - i ∧ e 82 = .int .i64 i ∧ ∃ v G, Acc lo J v (x.2.2 ++ newRecs x.2.2 (y.2.2.take i)) G ∧ (G.Nodup ∧ ∀ b ∈ G, lo ≤ b ∧ b < J.size ∧ (b ∈ G2 ∨ H2.size ≤ b)) ∧ (v.nl = true ∨ v.b < J.size) ∧ (v.b = t2.b ∧ v.nl = t2.nl ∨ H2.size ≤ v.b ∧ v.nl = false) ∧ (x.2.2 ++ newRecs x.2.2 (y.2.2.take i)).length ≤ 2000 ∧ J.get B.size = .cells [.int .i64 x.1, t.v, v.v] 3) (y.2.2.length - 0) ?_ ?_
                · simp (maxSteps := 2000000) (disch := first | omega | (simp only [AH.size_new, AH.size_put] <;> omega) | fail) only [amV, amH, amQ, amL, amN Tryd.prog, amS, seval, reduceCtorEq, ty3, ty4, ty9, ty29, ty47, ty53, ty55, ty67, ty69, ty88, kl2, e2, e3, e4, e9]
                  exact ⟨fun _ _ _ _ => trivial, 0, by omega, rfl, rfl, t2, G2, by simpa [newRecs] using hacc2, ⟨hn2, fun b hb => ⟨(hG2 b hb).1, by have := (hG2 b hb).2; omega, .inl hb⟩⟩, hub.imp id fun h => by omega, .inl ⟨rfl, rfl⟩, by simpa [newRecs] using hlr, gp⟩
                · clear e2 e3 e4 e9 e64 e65 e66
                  rintro n e J ⟨⟨hzJ, hJ⟩, e2, e3, e4, e9, e80, e81, i, hi, rfl, e82, v, G, haccJ, ⟨hGn, hGb⟩, hvb, hvt, hlenR, gpJ⟩
                  have gaJ := (hJ A.size (by omega) (by omega) (.inl (by omega))).trans ga2
                  have gcJ := (hJ (A.size + 1 + 1) (by omega) (by omega) (.inl (by omega))).trans gc2
                  have hEAJ : Ext A J := ⟨by have := hEA2.size; omega, fun b hb => (hJ b (by omega) (by omega) (.inl (by omega))).trans (hEA2.get b hb)⟩
                  simp (maxSteps := 2000000) (disch := first | omega | (simp only [AH.size_new, AH.size_put] <;> omega) | fail) only [amR Tryd.prog ro X, amS, seval, reduceCtorEq, ty3, ty4, ty9, ty29, ty47, ty53, ty55, ty67, ty69, ty88, e81, e82]
                  refine CondB.split (fun h => ?_) (fun h => ?_)
                  · have hil : i < y.2.2.length := by simpa using h
                    obtain ⟨n1, b1, i1, w1, w2, M1, M2, rr, d1, d2, z1, _⟩ := (k2.ext hEAJ).record hil
                    simp (maxSteps := 2000000) (disch := first | omega | (simp only [AH.size_new, AH.size_put] <;> omega) | fail) only [amR Tryd.prog ro X, amS, seval, reduceCtorEq, ty3, ty4, ty9, ty29, ty47, ty53, ty55, ty67, ty69, ty88, e2, e3, e4, e9, e80, e81, e82, n1, rr, gaJ, hl2]
                    generalize hL : (J.new _).put J.size _ = L
                    have hEL : Ext J L := by rw [← hL]; exact (by ((repeat' (first | exact Ext.refl _ | assumption | refine Ext.trans ?_ (Ext.new _ _) | refine Ext.put ?_ ?_ _ | refine Ext.trans ?_ (by assumption))) <;> (first | omega | (simp only [AH.size_new, AH.size_put] <;> omega))))
                    have zL : L.size = J.size + 1 := by rw [← hL]; rfl
                    have gL : L.get J.size = .cells [w1.v, w2.v, .string y.2.2[i].2.2] 3 := by rw [← hL]; exact AH.get_put_self _ _ _
                    have gaL := (hEL.get A.size (by omega)).trans gaJ
                    have gpL := (hEL.get B.size (by omega)).trans gpJ
                    have gcL := (hEL.get (A.size + 1 + 1) (by omega)).trans gcJ
                    have hEAL := hEAJ.trans hEL
                    have hsucc := newRecs_succ x.2.2 hil
                    have hmono := newRecs_mono x.2.2 y.2.2 (i + 1)
                    have hrl : x.2.2[0]? = x.2.2[0]? := rfl
                    have hyl := hq _ (List.getElem_mem hil)
                    have hyl2 := (hS2.2.2.2.2.2 _ (List.getElem_mem hil)).2.1
                    refine Wp.loopC (fun n e Q => Ext L Q ∧ e 2 = .pointer (some ⟨A.size, 0, none⟩) ∧ e 3 = .pointer (some ⟨A.size + 1, 0, none⟩) ∧ e 4 = .pointer (some ⟨A.size + 1 + 1, 0, none⟩) ∧ e 9 = .pointer (some ⟨B.size, 0, none⟩) ∧ e 15 = .pointer (some ⟨J.size, 0, none⟩) ∧ e 80 = u2.v ∧ e 81 = .int .i64 y.2.2.length ∧ e 82 = .int .i64 i ∧ e 87 = s2.v ∧ e 88 = .int .i64 x.2.2.length ∧
                      ∃ k : Nat, k ≤ x.2.2.length ∧ n = x.2.2.length - k ∧ e 89 = .int .i64 k ∧ e 16 = .bool ((x.2.2.take k).any fun z => decide (z = y.2.2[i]))) (x.2.2.length - 0) ?_ ?_
                    · simp (maxSteps := 2000000) (disch := first | omega | (simp only [AH.size_new, AH.size_put] <;> omega) | fail) only [amV, amH, amQ, amL, amN Tryd.prog, amS, seval, reduceCtorEq, ty3, ty4, ty9, ty29, ty47, ty53, ty55, ty67, ty69, ty88, hl2, e2, e3, e4, e9, e80, e81, e82]
                      exact ⟨Ext.refl _, 0, by omega, rfl, rfl, by simp⟩
                    · clear e2 e3 e4 e9 e80 e81 e82
                      rintro n e Q ⟨hEQ, e2, e3, e4, e9, e15, e80, e81, e82, e87, e88, k, hk, rfl, e89, e16⟩
                      have zQ := hEQ.size
                      have gQ := (hEQ.get J.size (by omega)).trans gL
                      simp (maxSteps := 2000000) (disch := first | omega | (simp only [AH.size_new, AH.size_put] <;> omega) | fail) only [amR Tryd.prog ro X, amS, seval, reduceCtorEq, ty3, ty4, ty9, ty29, ty47, ty53, ty55, ty67, ty69, ty88, e88, e89]
                      refine CondB.split (fun h => ?_) (fun h => ?_)
                      · have hkl : k < x.2.2.length := by simpa using h
                        obtain ⟨n2, b2, i2, w3, w4, M3, M4, rr2, d3, d4, z2', _⟩ := (h2.ext (hEAL.trans hEQ)).record hkl
                        have hany := any_succ y.2.2[i] hkl
                        cases hb : ((x.2.2.take k).any fun z => decide (z = y.2.2[i])) with
                        | true =>
                          rw [hb] at e16 hany
                          simp (maxSteps := 2000000) (disch := first | omega | (simp only [AH.size_new, AH.size_put] <;> omega) | fail) only [amR Tryd.prog ro X, amS, seval, reduceCtorEq, ty3, ty4, ty9, ty29, ty47, ty53, ty55, ty67, ty69, ty88, e2, e3, e4, e9, e15, e80, e81, e82, e87, e88, e89, e16, n2, rr2]
                          exact ⟨x.2.2.length - (k + 1), by omega, (by ((repeat' (first | exact Ext.refl _ | assumption | refine Ext.trans ?_ (Ext.new _ _) | refine Ext.put ?_ ?_ _ | refine Ext.trans ?_ (by assumption))) <;> (first | omega | (simp only [AH.size_new, AH.size_put] <;> omega)))), k + 1, by omega, rfl, by simp, by rw [hany]; rfl⟩
                        | false =>
                          rw [hb] at e16 hany
                          simp (maxSteps := 2000000) (disch := first | omega | (simp only [AH.size_new, AH.size_put] <;> omega) | fail) only [amR Tryd.prog ro X, amS, seval, reduceCtorEq, ty3, ty4, ty9, ty29, ty47, ty53, ty55, ty67, ty69, ty88, e2, e3, e4, e9, e15, e80, e81, e82, e87, e88, e89, e16, n2, rr2, gQ]
                          generalize hU : (Q.new _).put Q.size _ = U
                          have hEU : Ext Q U := by rw [← hU]; exact (by ((repeat' (first | exact Ext.refl _ | assumption | refine Ext.trans ?_ (Ext.new _ _) | refine Ext.put ?_ ?_ _ | refine Ext.trans ?_ (by assumption))) <;> (first | omega | (simp only [AH.size_new, AH.size_put] <;> omega))))
                          refine (Same.impl.sameRecord_a _ (by have := hEU.size; omega) w3 w4 w1 w2 x.2.2[k] y.2.2[i] M3 M4 M1 M2 (d3.ext hEU) (d4.ext hEU) ((d1.ext hEL).ext (hEQ.trans hEU)) ((d2.ext hEL).ext (hEQ.trans hEU)) (by have := hp _ (List.getElem_mem hkl); omega) (by have := (hS.2.2.2.2.2 _ (List.getElem_mem hkl)).2.1; omega)).mono ?_
                          rintro r V ⟨rfl, hEV⟩
                          simp (maxSteps := 2000000) (disch := first | omega | (simp only [AH.size_new, AH.size_put] <;> omega) | fail) only [amR Tryd.prog ro X, amS, seval, reduceCtorEq, ty3, ty4, ty9, ty29, ty47, ty53, ty55, ty67, ty69, ty88, e2, e3, e4, e9, e15, e80, e81, e82, e87, e88, e89, e16]
                          exact ⟨x.2.2.length - (k + 1), by omega, hEQ.trans (hEU.trans hEV), k + 1, by omega, rfl, by simp, by rw [hany]; simp⟩
                      · have hkl : k = x.2.2.length := by simp at h; omega
                        subst hkl
                        rw [List.take_length] at e16
                        have haccQ : Acc lo Q v (x.2.2 ++ newRecs x.2.2 (y.2.2.take i)) G := (haccJ.ext hEL).ext hEQ
                        have gpQ := (hEQ.get B.size (by omega)).trans gpL
                        have gcQ := (hEQ.get (A.size + 1 + 1) (by omega)).trans gcL
                        cases hb : (x.2.2.any fun z => decide (z = y.2.2[i])) with
                        | true =>
                          rw [hb] at e16
                          rw [if_pos hb, List.append_nil] at hsucc
                          simp (maxSteps := 2000000) (disch := first | omega | (simp only [AH.size_new, AH.size_put] <;> omega) | fail) only [amR Tryd.prog ro X, amS, seval, reduceCtorEq, ty3, ty4, ty9, ty29, ty47, ty53, ty55, ty67, ty69, ty88, e2, e3, e4, e9, e15, e80, e81, e82, e16]
                          refine ⟨y.2.2.length - (i + 1), by omega, ⟨by omega, fun b hb1 hb2 hb3 => (hEQ.get b (by omega)).trans ((hEL.get b (by omega)).trans (hJ b hb1 hb2 hb3))⟩, i + 1, by omega, rfl, by simp, v, G, by rw [hsucc]; exact haccQ, ⟨hGn, fun b hb => ⟨(hGb b hb).1, by have := (hGb b hb).2.1; omega, (hGb b hb).2.2⟩⟩, hvb.imp id fun h => by omega, hvt, by rw [hsucc]; exact hlenR, gpQ⟩
                        | false =>
                          rw [hb] at e16
                          have hne : ¬ (x.2.2.any fun z => decide (z = y.2.2[i])) = true := by rw [hb]; simp
                          rw [if_neg hne] at hsucc
                          have hvlen := haccQ.len
                          by_cases hfull : (2000 : Int) ≤ (x.2.2 ++ newRecs x.2.2 (y.2.2.take i)).length
                          · simp (maxSteps := 2000000) (disch := first | omega | (simp only [AH.size_new, AH.size_put] <;> omega) | fail) only [amR Tryd.prog ro X, amS, seval, reduceCtorEq, ty3, ty4, ty9, ty29, ty47, ty53, ty55, ty67, ty69, ty88, e2, e3, e4, e9, e15, e80, e81, e82, e16, gpQ, gcQ, hvlen, hfull]
                            rw [hsucc, List.length_append] at hmono
                            simp only [List.length_cons, List.length_nil] at hmono
                            refine ⟨_, [], rfl, by rw [mergeR_3 hS hS2 hw hcl (.inr (by rw [List.length_append] at hfull ⊢; omega))]; exact Put.bare_rep _ 3 _ _ Put.e0 Put.e0, Fresh.nil _ _, ⟨(by first | omega | (simp only [AH.size_new, AH.size_put] <;> omega)), fun b hb => ?_⟩⟩
                            rw [AH.get_put_other (by omega)]
                            exact (hEQ.get b (by omega)).trans ((hEL.get b (by omega)).trans (hEAJ.get b hb))
                          · simp (maxSteps := 2000000) (disch := first | omega | (simp only [AH.size_new, AH.size_put] <;> omega) | fail) only [amR Tryd.prog ro X, amS, seval, reduceCtorEq, ty3, ty4, ty9, ty29, ty47, ty53, ty55, ty67, ty69, ty88, e2, e3, e4, e9, e15, e80, e81, e82, e16, gpQ, gcQ, hvlen, hfull]
                            refine WpH (Q.size) [3] (by kernel_rfl) (.inl (by kernel_rfl)) ?_
                            simp (maxSteps := 2000000) (disch := first | omega | (simp only [AH.size_new, AH.size_put] <;> omega) | fail) only [amX2 Tryd.prog ro X, amX Tryd.prog ro X, amR Tryd.prog ro X, amS, seval, reduceCtorEq, ty3, ty4, ty9, ty29, ty47, ty53, ty55, ty67, ty69, ty88, e2, e3, e4, e9, e15, e80, e81, e82, e16, gpQ, gQ]
                            refine (Put.impl.copyRecord_a _ (by first | omega | (simp only [AH.size_new, AH.size_put] <;> omega)) w1 w2 y.2.2[i] M1 M2 ((d1.ext hEL).ext hEQ) ((d2.ext hEL).ext hEQ) hyl (by omega)).mono ?_
                            rintro r V ⟨t3, t4, G3, G4, rfl, q3, q4, fr3, hEV⟩
                            have zV := hEV.size
                            have hbnd : v.b < Q.size := haccQ.bub (hvb.imp id fun h => by omega) (by omega)
                            obtain ⟨v2', A8, hap2, hs', hg, hz8, hv8⟩ := (haccQ.ext hEV).lit (P := Tryd.prog) (ro := ro) (t := 53) (n := 1) (vs := [t3.v, t4.v, .string y.2.2[i].2.2]) (xs := [y.2.2[i]]) (Gx := G3 ++ G4) (by omega) (by simp only [ty53]; rfl) rfl (Reps.one (rep_Record.2 ⟨t3, t4, G3, G4, rfl, rfl, q3, q4, by show y.2.2[i].2.2.size < _; unfold BIG; omega⟩)) (.inr fun hm => by have := fr3.lo _ hm; omega) (by omega) (by omega)
                            rw [show Dat.w TRecord = 3 from rfl] at hap2
                            have hvB : v.b ≠ B.size := by rcases hvt with ⟨h, _⟩ | ⟨h, _⟩ <;> omega
                            have gpV := (hEV.get B.size (by omega)).trans gpQ
                            have gp8 := (hg.get B.size (by omega) (.inr (fun h => hvB h.symm))).trans gpV
                            simp (maxSteps := 2000000) (disch := first | omega | (simp only [AH.size_new, AH.size_put] <;> omega) | fail) only [amX2 Tryd.prog ro X, amX Tryd.prog ro X, amR Tryd.prog ro X, amS, seval, reduceCtorEq, ty3, ty4, ty9, ty29, ty47, ty53, ty55, ty67, ty69, ty88, e2, e3, e4, e9, e15, e80, e81, e82, hap2, gpV, gp8]
                            obtain ⟨y1, y2, y3⟩ := hs'.lt (List.append_ne_nil_of_right_ne_nil _ (by simp))
                            have hv2B : v2'.b ≠ B.size := by rcases hv8 with ⟨_, h⟩ | ⟨h, _⟩ <;> omega
                            have hz9 := hg.size
                            refine ⟨fun b hb => hEV.get b hb, y.2.2.length - (i + 1), by omega, ⟨(by first | omega | (simp only [AH.size_new, AH.size_put] <;> omega)), fun b hb1 hb2 hb3 => ?_⟩, i + 1, by omega, rfl, by simp, v2', G ++ (G3 ++ G4), ?_, ⟨?_, ?_⟩, .inr (by first | omega | (simp only [AH.size_new, AH.size_put] <;> omega)), ?_, ?_, rfl⟩
                            · rw [AH.get_put_other hb2]
                              refine (hg.get b (by omega) ?_).trans ((hEV.get b (by omega)).trans ((hEQ.get b (by omega)).trans ((hEL.get b (by omega)).trans (hJ b hb1 hb2 hb3))))
                              rcases hvt with ⟨h, _⟩ | ⟨h, _⟩
                              · rw [h]; exact hb3
                              · exact .inr (by omega)
                            · rw [hsucc, ← List.append_assoc]
                              refine hs'.frame (Nat.le_refl _) (fun z hz h => AH.get_put_other ?_)
                              rcases h with ⟨_, _, h⟩ | h
                              · omega
                              · rcases List.mem_append.1 h with h | h
                                · have := (hGb z h).2.2
                                  rcases this with h2 | h2
                                  · have := (hG2 z h2).2; omega
                                  · omega
                                · have := fr3.lo z h; omega
                            · exact List.nodup_append.2 ⟨hGn, fr3.nodup, fun a ha b hb e => by have := (hGb a ha).2.1; have := fr3.lo b hb; omega⟩
                            · intro b hb
                              rcases List.mem_append.1 hb with h | h
                              · have := (hGb b h).1; have h2 := (hGb b h).2.1; exact ⟨this, (by first | omega | (simp only [AH.size_new, AH.size_put] <;> omega)), (hGb b h).2.2⟩
                              · have := fr3.lo b h; have := fr3.hi b h; exact ⟨by omega, (by first | omega | (simp only [AH.size_new, AH.size_put] <;> omega)), .inr (by omega)⟩
                            · rcases hv8 with ⟨h1', h2'⟩ | ⟨h1', h2'⟩
                              · rcases hvt with ⟨h3, h4⟩ | ⟨h3, h4⟩
                                · exact .inl ⟨h2'.trans h3, h1'.trans h4⟩
                                · exact .inr ⟨by omega, h1'.trans h4⟩
                              · exact .inr ⟨by omega, h2'⟩
                            · rw [hsucc, ← List.append_assoc, List.length_append]
                              simp only [List.length_cons, List.length_nil]
                              omega
                  · have hil : i = y.2.2.length := by simp at h; omega
                    subst hil
                    rw [List.take_length] at haccJ hlenR
                    obtain ⟨F, f1, f2, f3, f4⟩ := haccJ.foot (fun b hb => (hGb b hb).1) hGn
                    simp (maxSteps := 2000000) (disch := first | omega | (simp only [AH.size_new, AH.size_put] <;> omega) | fail) only [amR Tryd.prog ro X, amS, seval, reduceCtorEq, ty3, ty4, ty9, ty29, ty47, ty53, ty55, ty67, ty69, ty88, e2, e3, e4, e9, gpJ, gcJ]
                    have hKb : ∀ b ∈ K, b ≠ B.size ∧ (b < lo ∨ b ≠ t2.b) ∧ A.size + 3 ≤ b ∧ b < H2.size ∧ b ∉ F := fun b hb => by
                      have hbd := hK.bound b hb
                      rcases hKf with rfl | h
                      · have c1 := fr1.lo b hb; have c2 := fr1.hi b hb; have c3 := hG1 b hb
                        exact ⟨by omega, .inl c3, by omega, hbd, fun hm => by have := f3 b hm; omega⟩
                      · have c1 := h.lo b hb
                        refine ⟨by omega, .inr (by omega), by omega, hbd, fun hm => ?_⟩
                        rcases f4 b hm with ⟨_, h'⟩ | h'
                        · rcases hvt with ⟨h2, _⟩ | ⟨h2, _⟩ <;> omega
                        · rcases (hGb b h').2.2 with h2 | h2
                          · have := (hG2 b h2).2; omega
                          · omega
                    have hKn : K.Nodup := by
                      rcases hKf with rfl | h
                      · exact fr1.nodup
                      · exact h.nodup
                    have hKJ : SlR J t (insAll x.1 x.2.1 y.2.1) K := hK.frame fun b hb => by
                      obtain ⟨c1, c2, c3, c4, _⟩ := hKb b hb
                      exact ⟨hJ b c4 c1 c2, by omega⟩
                    refine ⟨_, K ++ F, rfl, ?_, ⟨List.nodup_append.2 ⟨hKn, f2, fun a ha b hb e => (hKb a ha).2.2.2.2 (e ▸ hb)⟩, fun b hb => ?_, fun b hb => ?_⟩, ⟨(by first | omega | (simp only [AH.size_new, AH.size_put] <;> omega)), fun b hb => by rw [AH.get_put_other (by omega)]; exact hEAJ.get b hb⟩⟩
                    · rw [mergeR_0 hS hS2 hw hcl (by omega)]
                      refine rep_Kept.2 ⟨t, v, K, F, rfl, rfl, ?_, ?_, Put.e0, Put.e0⟩
                      · exact hKJ.extx ((ExtX.refl [A.size + 1 + 1] J).put (by simp) _) (fun b hb => by have := (hKb b hb).2.2.1; simp; omega)
                      · exact f1.extx ((ExtX.refl [A.size + 1 + 1] J).put (by simp) _) (fun b hb => by have := f3 b hb; simp; omega)
                    · rcases List.mem_append.1 hb with h | h
                      · have := (hKb b h).2.2.1; omega
                      · have := f3 b h; omega
                    · rcases List.mem_append.1 hb with h | h
                      · have := (hKb b h).2.2.2.1; simp only [AH.size_put]; omega
                      · exact f1.bound b h
      · simp (maxSteps := 2000000) (disch := first | omega | (simp only [AH.size_new, AH.size_put] <;> omega) | fail) only [amR Tryd.prog ro X, amS, seval, reduceCtorEq, ty3, ty4, ty9, ty29, ty47, ty53, ty55, ty67, ty69, ty88, hE1.get, hE2.get, hS2, hw]
        exact ⟨_, [], rfl, by rw [mergeR_1 (.inr (.inr hw))]; exact Put.bare_rep _ 1 _ _ Put.e0 Put.e0, Fresh.nil _ _, (by ((repeat' (first | exact Ext.refl _ | assumption | refine Ext.trans ?_ (Ext.new _ _) | refine Ext.put ?_ ?_ _ | refine Ext.trans ?_ (by assumption))) <;> (first | omega | (simp only [AH.size_new, AH.size_put] <;> omega))))⟩
    · simp (maxSteps := 2000000) (disch := first | omega | (simp only [AH.size_new, AH.size_put] <;> omega) | fail) only [amR Tryd.prog ro X, amS, seval, reduceCtorEq, ty3, ty4, ty9, ty29, ty47, ty53, ty55, ty67, ty69, ty88, hE1.get, hE2.get, hS2]
      exact ⟨_, [], rfl, by rw [mergeR_1 (.inr (.inl hS2))]; exact Put.bare_rep _ 1 _ _ Put.e0 Put.e0, Fresh.nil _ _, (by ((repeat' (first | exact Ext.refl _ | assumption | refine Ext.trans ?_ (Ext.new _ _) | refine Ext.put ?_ ?_ _ | refine Ext.trans ?_ (by assumption))) <;> (first | omega | (simp only [AH.size_new, AH.size_put] <;> omega))))⟩
  · simp (maxSteps := 2000000) (disch := first | omega | (simp only [AH.size_new, AH.size_put] <;> omega) | fail) only [amR Tryd.prog ro X, amS, seval, reduceCtorEq, ty3, ty4, ty9, ty29, ty47, ty53, ty55, ty67, ty69, ty88, hE1.get, hS]
    exact ⟨_, [], rfl, by rw [mergeR_1 (.inl hS)]; exact Put.bare_rep _ 1 _ _ Put.e0 Put.e0, Fresh.nil _ _, (by ((repeat' (first | exact Ext.refl _ | assumption | refine Ext.trans ?_ (Ext.new _ _) | refine Ext.put ?_ ?_ _ | refine Ext.trans ?_ (by assumption))) <;> (first | omega | (simp only [AH.size_new, AH.size_put] <;> omega))))⟩
theorem spec_a (A : AH) (hro : ro ≤ A.size) (s1 s2 u1 u2 : Sl) (x y : TStore) (F1 F2 K1 K2 : List Nat) (h1 : SlR A s1 x.2.1 F1) (h2 : SlR A s2 x.2.2 F2) (k1 : SlR A u1 y.2.1 K1) (k2 : SlR A u2 y.2.2 K2) (hp : ∀ r ∈ x.2.2, r.1.length < 4294967296) (hq : ∀ r ∈ y.2.2, r.1.length < 4294967296) :
    ACalls Tryd.prog ro X 63 [.agg #[.int .i64 x.1, s1.v, s2.v], .agg #[.int .i64 y.1, u1.v, u2.v]] A (fun r A' => ∃ cs G, r = .ret (.agg cs.toArray) ∧ Dat.rep A' (mergeR x y) cs G ∧ Ext A A') := by
  refine ACalls.enterQ (rs := [.cell 4 88]) Tryd.func63 rfl (by kernel_rfl) rfl ?_
  have hl1 := h1.len
  have hl2 := h2.len
  have kl1 := k1.len
  have kl2 := k2.len
  simp (maxSteps := 2000000) (disch := first | omega | (simp only [AH.size_new, AH.size_put] <;> omega) | fail) only [amR Tryd.prog ro X, amS, seval, reduceCtorEq, ty3, ty4, ty9, ty29, ty47, ty53, ty55, ty67, ty69, ty88]
  refine (Store.specStore_a _ (by first | omega | (simp only [AH.size_new, AH.size_put] <;> omega)) s1 s2 x F1 F2 (h1.ext (by ((repeat' (first | exact Ext.refl _ | assumption | refine Ext.trans ?_ (Ext.new _ _) | refine Ext.put ?_ ?_ _ | refine Ext.trans ?_ (by assumption))) <;> (first | omega | (simp only [AH.size_new, AH.size_put] <;> omega))))) (h2.ext (by ((repeat' (first | exact Ext.refl _ | assumption | refine Ext.trans ?_ (Ext.new _ _) | refine Ext.put ?_ ?_ _ | refine Ext.trans ?_ (by assumption))) <;> (first | omega | (simp only [AH.size_new, AH.size_put] <;> omega))))) (fun r hr => by have := hp r hr; omega)).mono ?_
  rintro r A1 ⟨rfl, hE1⟩
  have v1 := hE1.size
  simp only [AH.size_new] at v1
  by_cases hS : StoreOk x
  · simp (maxSteps := 2000000) (disch := first | omega | (simp only [AH.size_new, AH.size_put] <;> omega) | fail) only [amR Tryd.prog ro X, amS, seval, reduceCtorEq, ty3, ty4, ty9, ty29, ty47, ty53, ty55, ty67, ty69, ty88, hE1.get, hS]
    refine (Store.specStore_a _ (by first | omega | (simp only [AH.size_new, AH.size_put] <;> omega)) u1 u2 y K1 K2 (k1.ext (by ((repeat' (first | exact Ext.refl _ | assumption | refine Ext.trans ?_ (Ext.new _ _) | refine Ext.put ?_ ?_ _ | refine Ext.trans ?_ (by assumption))) <;> (first | omega | (simp only [AH.size_new, AH.size_put] <;> omega))))) (k2.ext (by ((repeat' (first | exact Ext.refl _ | assumption | refine Ext.trans ?_ (Ext.new _ _) | refine Ext.put ?_ ?_ _ | refine Ext.trans ?_ (by assumption))) <;> (first | omega | (simp only [AH.size_new, AH.size_put] <;> omega))))) (fun r hr => by have := hq r hr; omega)).mono ?_
    rintro r A2 ⟨rfl, hE2⟩
    have v2 := hE2.size
    by_cases hS2 : StoreOk y
    · by_cases hw : x.1 = y.1
      · simp (maxSteps := 2000000) (disch := first | omega | (simp only [AH.size_new, AH.size_put] <;> omega) | fail) only [amR Tryd.prog ro X, amS, seval, reduceCtorEq, ty3, ty4, ty9, ty29, ty47, ty53, ty55, ty67, ty69, ty88, hE1.get, hE2.get, hS2, hw]
        have hEA : Ext A A2 := (by ((repeat' (first | exact Ext.refl _ | assumption | refine Ext.trans ?_ (Ext.new _ _) | refine Ext.put ?_ ?_ _ | refine Ext.trans ?_ (by assumption))) <;> (first | omega | (simp only [AH.size_new, AH.size_put] <;> omega))))
        have ga : A2.get A.size = .cells [.int .i64 x.1, s1.v, s2.v] 3 := by rw [hE2.get _ (by first | omega | (simp only [AH.size_new, AH.size_put] <;> omega)), hE1.get _ (by first | omega | (simp only [AH.size_new, AH.size_put] <;> omega)), AH.get_new_other (by simp only [AH.size_new]; omega), AH.get_new_other (by simp only [AH.size_new]; omega)]; exact AH.get_new_self _ _
        have gb : A2.get (A.size + 1) = .cells [.int .i64 y.1, u1.v, u2.v] 3 := by rw [hE2.get _ (by first | omega | (simp only [AH.size_new, AH.size_put] <;> omega)), hE1.get _ (by first | omega | (simp only [AH.size_new, AH.size_put] <;> omega)), AH.get_new_other (by simp only [AH.size_new]; omega)]; exact AH.get_new_self _ _
        have gc : A2.get (A.size + 1 + 1) = .cells [.int .i64 0, .int .i64 0, Sl.nil.v, Sl.nil.v, .string ByteArray.empty, .string ByteArray.empty] 6 := by rw [hE2.get _ (by first | omega | (simp only [AH.size_new, AH.size_put] <;> omega)), hE1.get _ (by first | omega | (simp only [AH.size_new, AH.size_put] <;> omega))]; exact AH.get_new_self _ _
        clear hE1 hE2
        have v2 : A.size + 3 ≤ A2.size := by omega
        have hlt : x.2.1.length ≤ 5000 := hS.2.1
        have hlt2 : y.2.1.length ≤ 5000 := hS2.2.1
        have hlr : x.2.2.length ≤ 2000 := hS.2.2.1
        have hlr2 : y.2.2.length ≤ 2000 := hS2.2.2.1
        rw [← hw]
        refine (Put.spec.l4Copy_acc _ (by first | omega | (simp only [AH.size_new, AH.size_put] <;> omega)) s1 s2 x F1 F2 (h1.ext hEA) (h2.ext hEA) (by omega) (by omega) (fun r hr => ⟨hp r hr, by have := (hS.2.2.2.2.2 r hr).2.1; omega⟩)).mono ?_
        rintro r B ⟨t1, t2, G1, G2, lo, rfl, q1, fr1, hlo, hG1, hacc, ⟨hn2, hG2⟩, hub, hle, hEB⟩
        have zB := hEB.size
        have gaB := (hEB.get A.size (by omega)).trans ga
        have gbB := (hEB.get (A.size + 1) (by omega)).trans gb
        have gcB := (hEB.get (A.size + 1 + 1) (by omega)).trans gc
        have htb : t2.b < B.size := hacc.bub hub (by omega)
        simp (maxSteps := 2000000) (disch := first | omega | (simp only [AH.size_new, AH.size_put] <;> omega) | fail) only [amR Tryd.prog ro X, amS, seval, reduceCtorEq, ty3, ty4, ty9, ty29, ty47, ty53, ty55, ty67, ty69, ty88]
        generalize hC : (((B.new _).put B.size _).new _).put B.size _ = C
        have hEC : Ext B C := by rw [← hC]; exact (by ((repeat' (first | exact Ext.refl _ | assumption | refine Ext.trans ?_ (Ext.new _ _) | refine Ext.put ?_ ?_ _ | refine Ext.trans ?_ (by assumption))) <;> (first | omega | (simp only [AH.size_new, AH.size_put] <;> omega))))
        have zC : C.size = B.size + 2 := by rw [← hC]; rfl
        have gpC : C.get B.size = .cells [.int .i64 x.1, (Sl.mk false (B.size + 1) 0 0 0).v, t2.v] 3 := by rw [← hC]; exact AH.get_put_self _ _ _
        have hEAC : Ext A C := hEA.trans (hEB.trans hEC)
        have hR1 := hS.2.2.2.1
        have hR2 : Rising x.1 y.2.1 := by rw [hw]; exact hS2.2.2.2.1
        refine Wp.loopC (fun n e H => ExtX [B.size] C H ∧ e 2 = .pointer (some ⟨A.size, 0, none⟩) ∧ e 3 = .pointer (some ⟨A.size + 1, 0, none⟩) ∧ e 4 = .pointer (some ⟨A.size + 1 + 1, 0, none⟩) ∧ e 5 = .pointer (some ⟨B.size, 0, none⟩) ∧
          ∃ j : Nat, j ≤ y.2.1.length ∧ n = y.2.1.length - j ∧ e 7 = .int .i64 j ∧ ∃ p : Nat, p ≤ x.2.1.length ∧ e 6 = .int .i64 p ∧ ∃ s out, Acc C.size H s out [] ∧ H.get B.size = .cells [.int .i64 x.1, s.v, t2.v] 3 ∧ out ++ x.2.1.drop p = insAll x.1 x.2.1 (y.2.1.take j) ∧
            (∀ z ∈ out, ∀ t ∈ y.2.1.drop j, slt (sumS z x.1) (sumS t x.1)) ∧ (∀ z ∈ x.2.1.take p, ∀ t ∈ y.2.1.drop j, slt (sumS z x.1) (sumS t x.1)) ∧ clash1 x.1 x.2.1 (y.2.1.take j) = none) (y.2.1.length - 0) ?_ ?_
        · simp (maxSteps := 2000000) (disch := first | omega | (simp only [AH.size_new, AH.size_put] <;> omega) | fail) only [amV, amH, amQ, amL, amN Tryd.prog, amS, seval, reduceCtorEq, ty3, ty4, ty9, ty29, ty47, ty53, ty55, ty67, ty69, ty88]
          exact ⟨ExtX.refl _ _, 0, by omega, rfl, rfl, 0, by omega, rfl, _, [], .empty _ _, gpC, by simp [insAll], by simp, by simp, rfl⟩
        · rintro n e H ⟨hX, e2, e3, e4, e5, j, hj, rfl, e7, p, hp', e6, s, out, haccs, gp, hsum, ho1, ho2, hcl⟩
          have zH := hX.size
          have gaH := (hX.get A.size (by omega) (by simp; omega)).trans ((hEC.get _ (by omega)).trans gaB)
          have gbH := (hX.get (A.size + 1) (by omega) (by simp; omega)).trans ((hEC.get _ (by omega)).trans gbB)
          have gcH := (hX.get (A.size + 1 + 1) (by omega) (by simp; omega)).trans ((hEC.get _ (by omega)).trans gcB)
          have hEAH : Ext A H := ⟨by have := hEAC.size; omega, fun b hb => (hX.get b (by omega) (by simp; omega)).trans (hEAC.get b hb)⟩
          simp (maxSteps := 2000000) (disch := first | omega | (simp only [AH.size_new, AH.size_put] <;> omega) | fail) only [amR Tryd.prog ro X, amS, seval, reduceCtorEq, ty3, ty4, ty9, ty29, ty47, ty53, ty55, ty67, ty69, ty88, e3, e7, gbH, kl1]
          refine CondB.split (fun h => ?_) (fun h => ?_)
          · have hjl : j < y.2.1.length := by simpa using h
            obtain ⟨n1, b1, m1, i1, c1, q1'⟩ := (k1.ext hEAH).str hjl
            rw [aCell_eq] at c1
            have hjm : y.2.1[j] ∈ y.2.1.drop j := drop_mem hjl
            simp (maxSteps := 2000000) (disch := first | omega | (simp only [AH.size_new, AH.size_put] <;> omega) | fail) only [amR Tryd.prog ro X, amS, seval, reduceCtorEq, ty3, ty4, ty9, ty29, ty47, ty53, ty55, ty67, ty69, ty88, e2, e3, e4, e5, e6, e7]
            refine WpH (H.size) [] (by kernel_rfl) (.inl (by kernel_rfl)) ?_
            simp (maxSteps := 2000000) (disch := first | omega | (simp only [AH.size_new, AH.size_put] <;> omega) | fail) only [amX2 Tryd.prog ro X, amX Tryd.prog ro X, amR Tryd.prog ro X, amS, seval, reduceCtorEq, ty3, ty4, ty9, ty29, ty47, ty53, ty55, ty67, ty69, ty88, e2, e3, e4, e5, e6, e7, gaH, gbH, n1, c1]
            refine (Sum.spec_a _ (by first | omega | (simp only [AH.size_new, AH.size_put] <;> omega)) y.2.1[j] x.1 q1').mono ?_
            rintro r D ⟨rfl, hHD⟩
            have zD := hHD.size
            simp (maxSteps := 2000000) (disch := first | omega | (simp only [AH.size_new, AH.size_put] <;> omega) | fail) only [amX2 Tryd.prog ro X, amX Tryd.prog ro X, amR Tryd.prog ro X, amS, seval, reduceCtorEq, ty3, ty4, ty9, ty29, ty47, ty53, ty55, ty67, ty69, ty88, e2, e3, e4, e5, e6, e7]
            refine Wp.loopC (fun n e Q => ExtX [B.size] C Q ∧ e 2 = .pointer (some ⟨A.size, 0, none⟩) ∧ e 3 = .pointer (some ⟨A.size + 1, 0, none⟩) ∧ e 4 = .pointer (some ⟨A.size + 1 + 1, 0, none⟩) ∧ e 5 = .pointer (some ⟨B.size, 0, none⟩) ∧ e 7 = .int .i64 j ∧ e 8 = .string (sumS y.2.1[j] x.1) ∧
              ∃ p : Nat, p ≤ x.2.1.length ∧ n = x.2.1.length - p ∧ e 6 = .int .i64 p ∧ ∃ s out, Acc C.size Q s out [] ∧ Q.get B.size = .cells [.int .i64 x.1, s.v, t2.v] 3 ∧ out ++ x.2.1.drop p = insAll x.1 x.2.1 (y.2.1.take j) ∧
                (∀ z ∈ out, slt (sumS z x.1) (sumS y.2.1[j] x.1)) ∧ (∀ z ∈ x.2.1.take p, slt (sumS z x.1) (sumS y.2.1[j] x.1))) (x.2.1.length - p) ?_ ?_
            · simp (maxSteps := 2000000) (disch := first | omega | (simp only [AH.size_new, AH.size_put] <;> omega) | fail) only [amV, amH, amQ, amL, amN Tryd.prog, amS, seval, reduceCtorEq, ty3, ty4, ty9, ty29, ty47, ty53, ty55, ty67, ty69, ty88, e2, e3, e4, e5, e6, e7]
              exact ⟨hX.trans (hHD.x _), p, by omega, rfl, rfl, s, out, haccs.ext hHD, (hHD.get _ (by omega)).trans gp, hsum, fun z hz => ho1 z hz _ hjm, fun z hz => ho2 z hz _ hjm⟩
            · clear e2 e3 e4 e5 e6 e7 haccs gp hsum ho1 ho2 p hp' s out gaH gbH gcH hEAH hHD zD
              rintro n e Q ⟨hXQ, e2, e3, e4, e5, e7, e8, p, hp', rfl, e6, s, out, haccs, gp, hsum, ho1, ho2⟩
              have zQ := hXQ.size
              have gaQ := (hXQ.get A.size (by omega) (by simp; omega)).trans ((hEC.get _ (by omega)).trans gaB)
              have gbQ := (hXQ.get (A.size + 1) (by omega) (by simp; omega)).trans ((hEC.get _ (by omega)).trans gbB)
              have gcQ := (hXQ.get (A.size + 1 + 1) (by omega) (by simp; omega)).trans ((hEC.get _ (by omega)).trans gcB)
              have hEAQ : Ext A Q := ⟨by have := hEAC.size; omega, fun b hb => (hXQ.get b (by omega) (by simp; omega)).trans (hEAC.get b hb)⟩
              have hstep : ∀ t ∈ y.2.1.drop (j + 1), slt (sumS y.2.1[j] x.1) (sumS t x.1) := rise_drop hR2 hjl
              have hins := insAll_succ x.1 x.2.1 hjl
              have hcs := clash1_succ hjl hcl
              simp (maxSteps := 2000000) (disch := first | omega | (simp only [AH.size_new, AH.size_put] <;> omega) | fail) only [amX Tryd.prog ro X, amR Tryd.prog ro X, amS, seval, reduceCtorEq, ty3, ty4, ty9, ty29, ty47, ty53, ty55, ty67, ty69, ty88]
              refine WpH (Q.size) [13] (by kernel_rfl) (.inr (by intro v e A h; simp only [amK, amQ, thenQ, blockQ, endQ, reduceCtorEq, false_and, exists_false] at h)) ?_
              have hol : out.length ≤ 10000 := by
                have h1 := congrArg List.length hsum
                have h2 := (insAll_len x.1 (y.2.1.take j) x.2.1).2
                rw [List.length_append] at h1
                rw [List.length_take] at h2
                omega
              by_cases d : (p : Int) < x.2.1.length
              · have hpl : p < x.2.1.length := by omega
                obtain ⟨n2, b2, m2, i2, c2, q2⟩ := (h1.ext hEAQ).str hpl
                rw [aCell_eq] at c2
                simp (maxSteps := 2000000) (disch := first | omega | (simp only [AH.size_new, AH.size_put] <;> omega) | fail) only [amX Tryd.prog ro X, amR Tryd.prog ro X, amS, seval, reduceCtorEq, ty3, ty4, ty9, ty29, ty47, ty53, ty55, ty67, ty69, ty88, hl1, e2, e3, e4, e5, e6, e7, e8, gaQ, d, n2, c2]
                refine (Sum.spec_a _ (by first | omega | (simp only [AH.size_new, AH.size_put] <;> omega)) x.2.1[p] x.1 q2).mono ?_
                rintro r R ⟨rfl, hQR⟩
                have zR := hQR.size
                have gaR := (hQR.get A.size (by omega)).trans gaQ
                have gbR := (hQR.get (A.size + 1) (by omega)).trans gbQ
                have gcR := (hQR.get (A.size + 1 + 1) (by omega)).trans gcQ
                have gpR := (hQR.get B.size (by omega)).trans gp
                obtain ⟨n3, b3, m3, i3, c3, q3⟩ := ((h1.ext hEAQ).ext hQR).str hpl
                rw [aCell_eq] at c3
                have haccR := haccs.ext hQR
                by_cases hs : slt (sumS x.2.1[p] x.1) (sumS y.2.1[j] x.1)
                · have hs2 := hs
                  unfold slt at hs2
                  simp (maxSteps := 2000000) (disch := first | omega | (simp only [AH.size_new, AH.size_put] <;> omega) | fail) only [amX Tryd.prog ro X, amR Tryd.prog ro X, amS, seval, reduceCtorEq, ty3, ty4, ty9, ty29, ty47, ty53, ty55, ty67, ty69, ty88, e2, e3, e4, e5, e6, e7, e8, hs2]
                  refine ⟨fun b hb => hQR.get b (by omega), ?_⟩
                  refine WpH (R.size) [] (by kernel_rfl) (.inl (by kernel_rfl)) ?_
                  obtain ⟨s', A8, hap, hs', hg, hz8, _⟩ := haccR.lit (P := Tryd.prog) (ro := ro) (t := 47) (n := 1) (vs := [.string x.2.1[p]]) (xs := [x.2.1[p]]) (by omega) (by simp only [ty47]; rfl) rfl (Reps.one (show [Value.string x.2.1[p]] = [Value.string x.2.1[p]] ∧ ([] : List Nat) = [] ∧ x.2.1[p].size < BIG from ⟨rfl, rfl, q3⟩)) (.inr (by simp)) (by omega) (by omega)
                  rw [show Dat.w ByteArray = 1 from rfl] at hap
                  have gp8 := (hg.get B.size (by omega) (.inl (by omega))).trans gpR
                  simp (maxSteps := 2000000) (disch := first | omega | (simp only [AH.size_new, AH.size_put] <;> omega) | fail) only [amX2 Tryd.prog ro X, amX Tryd.prog ro X, amR Tryd.prog ro X, amS, seval, reduceCtorEq, ty3, ty4, ty9, ty29, ty47, ty53, ty55, ty67, ty69, ty88, e2, e3, e4, e5, e6, e7, e8, gaR, gpR, gp8, n3, c3, hap]
                  refine ⟨x.2.1.length - (p + 1), by omega, ⟨(by first | omega | (simp only [AH.size_new, AH.size_put] <;> omega)), fun b hb hm => (AH.get_put_other (by simpa using hm)).trans ((hg.get b (by omega) (.inl hb)).trans ((hQR.get b (by omega)).trans (hXQ.get b hb hm)))⟩, p + 1, by omega, rfl, by simp, s', out ++ [x.2.1[p]], ?_, rfl, by rw [drop_app hpl]; exact hsum, ?_, ?_⟩
                  · exact hs'.frame (Nat.le_refl _) (fun z hz h => AH.get_put_other (by rcases h with h | h; omega; simp at h))
                  · intro z hz
                    rcases List.mem_append.1 hz with hz | hz
                    · exact ho1 z hz
                    · rw [List.mem_singleton.1 hz]; exact hs
                  · intro z hz
                    rcases mem_take_succ hpl hz with hz | hz
                    · exact ho2 z hz
                    · rw [hz]; exact hs
                · have hs2 : Op.bytesLess (sumS x.2.1[p] x.1).toList (sumS y.2.1[j] x.1).toList = false := by simpa [slt] using hs
                  have hplc : plc x.1 (sumS y.2.1[j] x.1) x.2.1 = p := plc_eq p hp' ho2 (fun _ => hs)
                  simp (maxSteps := 2000000) (disch := first | omega | (simp only [AH.size_new, AH.size_put] <;> omega) | fail) only [amX Tryd.prog ro X, amR Tryd.prog ro X, amS, seval, reduceCtorEq, ty3, ty4, ty9, ty29, ty47, ty53, ty55, ty67, ty69, ty88, e2, e3, e4, e5, e6, e7, e8, hs2]
                  refine ⟨fun b hb => hQR.get b (by omega), ?_⟩
                  refine WpH (R.size) [13] (by kernel_rfl) (.inr (by intro v e A h; simp only [amK, amQ, thenQ, blockQ, endQ, reduceCtorEq, false_and, exists_false] at h)) ?_
                  simp (maxSteps := 2000000) (disch := first | omega | (simp only [AH.size_new, AH.size_put] <;> omega) | fail) only [amX Tryd.prog ro X, amR Tryd.prog ro X, amS, seval, reduceCtorEq, ty3, ty4, ty9, ty29, ty47, ty53, ty55, ty67, ty69, ty88, hl1, e2, e3, e4, e5, e6, e7, e8, gaR, d, n3, c3]
                  refine (Sum.spec_a _ (by first | omega | (simp only [AH.size_new, AH.size_put] <;> omega)) x.2.1[p] x.1 q3).mono ?_
                  rintro r T ⟨rfl, hRT⟩
                  have zT := hRT.size
                  have gaT := (hRT.get A.size (by omega)).trans gaR
                  have gbT := (hRT.get (A.size + 1) (by omega)).trans gbR
                  have gcT := (hRT.get (A.size + 1 + 1) (by omega)).trans gcR
                  have gpT := (hRT.get B.size (by omega)).trans gpR
                  have haccT := haccR.ext hRT
                  by_cases he : sumS x.2.1[p] x.1 = sumS y.2.1[j] x.1
                  · have hget : getR x.1 (sumS y.2.1[j] x.1) x.2.1 = some x.2.1[p] := by
                      have := getR_some (w := x.1) (s := sumS y.2.1[j] x.1) (l := x.2.1) (by rw [hplc]; exact hpl) (by simp only [hplc]; exact he)
                      simpa only [hplc] using this
                    rw [hget] at hcs
                    simp only at hcs
                    obtain ⟨n6, b6, m6, i6, c6, q6⟩ := (((h1.ext hEAQ).ext hQR).ext hRT).str hpl
                    obtain ⟨n7, b7, m7, i7, c7, q7⟩ := (((k1.ext hEAQ).ext hQR).ext hRT).str hjl
                    rw [aCell_eq] at c6 c7
                    simp (maxSteps := 2000000) (disch := first | omega | (simp only [AH.size_new, AH.size_put] <;> omega) | fail) only [amX Tryd.prog ro X, amR Tryd.prog ro X, amS, seval, reduceCtorEq, ty3, ty4, ty9, ty29, ty47, ty53, ty55, ty67, ty69, ty88, e2, e3, e4, e5, e6, e7, e8, he]
                    refine ⟨fun b hb => hRT.get b (by omega), ?_⟩
                    refine WpH (T.size) [] (by kernel_rfl) (.inl (by kernel_rfl)) ?_
                    by_cases hxy : x.2.1[p] = y.2.1[j]
                    · rw [if_pos hxy] at hcs
                      simp (maxSteps := 2000000) (disch := first | omega | (simp only [AH.size_new, AH.size_put] <;> omega) | fail) only [amX2 Tryd.prog ro X, amX Tryd.prog ro X, amR Tryd.prog ro X, amS, seval, reduceCtorEq, ty3, ty4, ty9, ty29, ty47, ty53, ty55, ty67, ty69, ty88, e2, e3, e4, e5, e6, e7, e8, gaT, gbT, n6, c6, n7, c7, hxy]
                      obtain ⟨n5, b5, m5, i5, c5, q5⟩ := (k1.ext (((hEAQ.trans hQR).trans hRT))).str hjl
                      rw [aCell_eq] at c5
                      refine WpH (T.size) [] (by kernel_rfl) (.inl (by kernel_rfl)) ?_
                      obtain ⟨s', A8, hap, hs', hg, hz8, _⟩ := haccT.lit (P := Tryd.prog) (ro := ro) (t := 47) (n := 1) (vs := [.string y.2.1[j]]) (xs := [y.2.1[j]]) (by omega) (by simp only [ty47]; rfl) rfl (Reps.one (show [Value.string y.2.1[j]] = [Value.string y.2.1[j]] ∧ ([] : List Nat) = [] ∧ y.2.1[j].size < BIG from ⟨rfl, rfl, q5⟩)) (.inr (by simp)) (by omega) (by omega)
                      rw [show Dat.w ByteArray = 1 from rfl] at hap
                      have gp8 := (hg.get B.size (by omega) (.inl (by omega))).trans gpT
                      simp (maxSteps := 2000000) (disch := first | omega | (simp only [AH.size_new, AH.size_put] <;> omega) | fail) only [amX2 Tryd.prog ro X, amX Tryd.prog ro X, amR Tryd.prog ro X, amS, seval, reduceCtorEq, ty3, ty4, ty9, ty29, ty47, ty53, ty55, ty67, ty69, ty88, e2, e3, e4, e5, e6, e7, e8, gbT, gpT, gp8, n5, c5, hap]
                      refine ⟨y.2.1.length - (j + 1), by omega, ⟨(by first | omega | (simp only [AH.size_new, AH.size_put] <;> omega)), fun b hb hm => (AH.get_put_other (by simpa using hm)).trans ((hg.get b (by omega) (.inl hb)).trans ((hRT.get b (by omega)).trans ((hQR.get b (by omega)).trans (hXQ.get b hb hm))))⟩, j + 1, by omega, rfl, by simp, p + 1, by omega, by simp, s', out ++ [y.2.1[j]], ?_, rfl, ?_, ?_, ?_, hcs⟩
                      · exact hs'.frame (Nat.le_refl _) (fun z hz h => AH.get_put_other (by rcases h with h | h; omega; simp at h))
                      · rw [hins, ← hsum, List.drop_eq_getElem_cons hpl, insU_same ho1 he, ← hxy, drop_app hpl, List.drop_eq_getElem_cons hpl]
                      · intro z hz t ht
                        rcases List.mem_append.1 hz with hz | hz
                        · exact slt_trans (ho1 z hz) (hstep t ht)
                        · rw [List.mem_singleton.1 hz]; exact hstep t ht
                      · intro z hz t ht
                        rcases mem_take_succ hpl hz with hz | hz
                        · exact slt_trans (ho2 z hz) (hstep t ht)
                        · rw [hz, he]; exact hstep t ht
                    · rw [if_neg hxy] at hcs
                      simp (maxSteps := 2000000) (disch := first | omega | (simp only [AH.size_new, AH.size_put] <;> omega) | fail) only [amX2 Tryd.prog ro X, amX Tryd.prog ro X, amR Tryd.prog ro X, amS, seval, reduceCtorEq, ty3, ty4, ty9, ty29, ty47, ty53, ty55, ty67, ty69, ty88, e2, e3, e4, e5, e6, e7, e8, gaT, gbT, n6, c6, n7, c7, hxy]
                      refine WpH (T.size) [] (by kernel_rfl) (.inl (by kernel_rfl)) ?_
                      simp (maxSteps := 2000000) (disch := first | omega | (simp only [AH.size_new, AH.size_put] <;> omega) | fail) only [amX2 Tryd.prog ro X, amX Tryd.prog ro X, amR Tryd.prog ro X, amS, seval, reduceCtorEq, ty3, ty4, ty9, ty29, ty47, ty53, ty55, ty67, ty69, ty88, e2, e3, e4, e5, e6, e7, e8, gaT, gbT, gcT, n6, c6, n7, c7, hxy]
                      have hfound := clash1_found hcs
                      exact ⟨_, [], rfl, by rw [mergeR_2 hS hS2 hw hfound]; exact Put.bare_rep _ 2 _ _ q6 q7, ⟨(by first | omega | (simp only [AH.size_new, AH.size_put] <;> omega)), fun b hb => by rw [AH.get_put_other (by omega)]; exact (hRT.get b (by omega)).trans ((hQR.get b (by omega)).trans (hEAQ.get b hb))⟩⟩
                  · have hget : getR x.1 (sumS y.2.1[j] x.1) x.2.1 = none := getR_ne (by rw [hplc]; exact hpl) (by simp only [hplc]; exact he)
                    rw [hget] at hcs
                    simp only at hcs
                    simp (maxSteps := 2000000) (disch := first | omega | (simp only [AH.size_new, AH.size_put] <;> omega) | fail) only [amX Tryd.prog ro X, amR Tryd.prog ro X, amS, seval, reduceCtorEq, ty3, ty4, ty9, ty29, ty47, ty53, ty55, ty67, ty69, ty88, e2, e3, e4, e5, e6, e7, e8, he]
                    refine ⟨fun b hb => hRT.get b (by omega), ?_⟩
                    obtain ⟨n5, b5, m5, i5, c5, q5⟩ := (k1.ext ((hEAQ.trans hQR).trans hRT)).str hjl
                    rw [aCell_eq] at c5
                    refine WpH (T.size) [] (by kernel_rfl) (.inl (by kernel_rfl)) ?_
                    obtain ⟨s', A8, hap, hs', hg, hz8, _⟩ := haccT.lit (P := Tryd.prog) (ro := ro) (t := 47) (n := 1) (vs := [.string y.2.1[j]]) (xs := [y.2.1[j]]) (by omega) (by simp only [ty47]; rfl) rfl (Reps.one (show [Value.string y.2.1[j]] = [Value.string y.2.1[j]] ∧ ([] : List Nat) = [] ∧ y.2.1[j].size < BIG from ⟨rfl, rfl, q5⟩)) (.inr (by simp)) (by omega) (by omega)
                    rw [show Dat.w ByteArray = 1 from rfl] at hap
                    have gp8 := (hg.get B.size (by omega) (.inl (by omega))).trans gpT
                    simp (maxSteps := 2000000) (disch := first | omega | (simp only [AH.size_new, AH.size_put] <;> omega) | fail) only [amX2 Tryd.prog ro X, amX Tryd.prog ro X, amR Tryd.prog ro X, amS, seval, reduceCtorEq, ty3, ty4, ty9, ty29, ty47, ty53, ty55, ty67, ty69, ty88, e2, e3, e4, e5, e6, e7, e8, gbT, gpT, gp8, n5, c5, hap]
                    refine ⟨y.2.1.length - (j + 1), by omega, ⟨(by first | omega | (simp only [AH.size_new, AH.size_put] <;> omega)), fun b hb hm => (AH.get_put_other (by simpa using hm)).trans ((hg.get b (by omega) (.inl hb)).trans ((hRT.get b (by omega)).trans ((hQR.get b (by omega)).trans (hXQ.get b hb hm))))⟩, j + 1, by omega, rfl, by simp, p, by omega, by simp, s', out ++ [y.2.1[j]], ?_, rfl, by rw [hins, ← hsum, insU_mid ho1 (fun z r e => by rw [List.drop_eq_getElem_cons hpl] at e; cases e; exact slt_of_not hs he), List.append_assoc]; rfl, ?_, ?_, hcs⟩
                    · exact hs'.frame (Nat.le_refl _) (fun z hz h => AH.get_put_other (by rcases h with h | h; omega; simp at h))
                    · intro z hz t ht
                      rcases List.mem_append.1 hz with hz | hz
                      · exact slt_trans (ho1 z hz) (hstep t ht)
                      · rw [List.mem_singleton.1 hz]; exact hstep t ht
                    · intro z hz t ht
                      exact slt_trans (ho2 z hz) (hstep t ht)
              · have hpe : p = x.2.1.length := by omega
                simp (maxSteps := 2000000) (disch := first | omega | (simp only [AH.size_new, AH.size_put] <;> omega) | fail) only [amX Tryd.prog ro X, amR Tryd.prog ro X, amS, seval, reduceCtorEq, ty3, ty4, ty9, ty29, ty47, ty53, ty55, ty67, ty69, ty88, hl1, e2, e3, e4, e5, e6, e7, e8, gaQ, d]
                refine WpH (Q.size) [13] (by kernel_rfl) (.inr (by intro v e A h; simp only [amK, amQ, thenQ, blockQ, endQ, reduceCtorEq, false_and, exists_false] at h)) ?_
                simp (maxSteps := 2000000) (disch := first | omega | (simp only [AH.size_new, AH.size_put] <;> omega) | fail) only [amX Tryd.prog ro X, amR Tryd.prog ro X, amS, seval, reduceCtorEq, ty3, ty4, ty9, ty29, ty47, ty53, ty55, ty67, ty69, ty88, hl1, e2, e3, e4, e5, e6, e7, e8, gaQ, d]
                have hplc : plc x.1 (sumS y.2.1[j] x.1) x.2.1 = p := plc_eq p hp' ho2 (fun h => by omega)
                have hget : getR x.1 (sumS y.2.1[j] x.1) x.2.1 = none := getR_end (by omega)
                rw [hget] at hcs
                simp only at hcs
                obtain ⟨n5, b5, m5, i5, c5, q5⟩ := (k1.ext hEAQ).str hjl
                rw [aCell_eq] at c5
                refine WpH (Q.size) [] (by kernel_rfl) (.inl (by kernel_rfl)) ?_
                obtain ⟨s', A8, hap, hs', hg, hz8, _⟩ := haccs.lit (P := Tryd.prog) (ro := ro) (t := 47) (n := 1) (vs := [.string y.2.1[j]]) (xs := [y.2.1[j]]) (by omega) (by simp only [ty47]; rfl) rfl (Reps.one (show [Value.string y.2.1[j]] = [Value.string y.2.1[j]] ∧ ([] : List Nat) = [] ∧ y.2.1[j].size < BIG from ⟨rfl, rfl, q5⟩)) (.inr (by simp)) (by omega) (by omega)
                rw [show Dat.w ByteArray = 1 from rfl] at hap
                have gp8 := (hg.get B.size (by omega) (.inl (by omega))).trans gp
                simp (maxSteps := 2000000) (disch := first | omega | (simp only [AH.size_new, AH.size_put] <;> omega) | fail) only [amX2 Tryd.prog ro X, amX Tryd.prog ro X, amR Tryd.prog ro X, amS, seval, reduceCtorEq, ty3, ty4, ty9, ty29, ty47, ty53, ty55, ty67, ty69, ty88, e2, e3, e4, e5, e6, e7, e8, gbQ, gp, gp8, n5, c5, hap]
                refine ⟨y.2.1.length - (j + 1), by omega, ⟨(by first | omega | (simp only [AH.size_new, AH.size_put] <;> omega)), fun b hb hm => (AH.get_put_other (by simpa using hm)).trans ((hg.get b (by omega) (.inl hb)).trans (hXQ.get b hb hm))⟩, j + 1, by omega, rfl, by simp, p, by omega, by simp, s', out ++ [y.2.1[j]], ?_, rfl, by rw [hins, ← hsum, insU_mid ho1 (fun z r e => by rw [List.drop_eq_nil_of_le (by omega)] at e; cases e), List.append_assoc]; rfl, ?_, ?_, hcs⟩
                · exact hs'.frame (Nat.le_refl _) (fun z hz h => AH.get_put_other (by rcases h with h | h; omega; simp at h))
                · intro z hz t ht
                  rcases List.mem_append.1 hz with hz | hz
                  · exact slt_trans (ho1 z hz) (hstep t ht)
                  · rw [List.mem_singleton.1 hz]; exact hstep t ht
                · intro z hz t ht
                  exact slt_trans (ho2 z hz) (hstep t ht)
          · have hjl : j = y.2.1.length := by simp at h; omega
            subst hjl
            rw [List.take_length] at hsum hcl
            have htz : tElemSize Tryd.prog 47 = some (Dat.w ByteArray) := by simp only [ty47]; rfl
            obtain ⟨sb, Fb, eb, qb, rb⟩ := (h1.ext hEAH).from htz hp'
            obtain ⟨vb, hsb, hrb⟩ := qb.srcS
            have hol := congrArg List.length hsum
            have hol2 := (insAll_len x.1 y.2.1 x.2.1).2
            rw [List.length_append] at hol
            obtain ⟨t, D, hapD, haccD, hgD, _⟩ := haccs.app (P := Tryd.prog) (ro := ro) (t := 47) (by omega) htz hsb rfl (hrb _) (.inr (by simp)) (by omega) (by omega)
            have zD := hgD.size
            have gpD := (hgD.get B.size (by omega) (.inl (by omega))).trans gp
            have gbD := (hgD.get (A.size + 1) (by omega) (.inl (by omega))).trans gbH
            have htlen := haccD.len
            rw [hsum] at haccD htlen
            have hsbound : s1.b < H.size ∨ s1.cap < BIG ∨ s1.nl = true := by
              cases h1 with
              | nil h hl hF => rw [h]; exact .inr (.inr rfl)
              | empty h hn hc hl hF => exact .inr (.inl hc)
              | inB h => exact .inl (by have := h.lt; have := hEAH.size; omega)
            simp (maxSteps := 2000000) (disch := first | omega | (simp only [AH.size_new, AH.size_put] <;> omega) | fail) only [amR Tryd.prog ro X, amS, seval, reduceCtorEq, ty3, ty4, ty9, ty29, ty47, ty53, ty55, ty67, ty69, ty88, e2, e3, e4, e5, e6]
            refine WpH (H.size) [] (by kernel_rfl) (.inl (by kernel_rfl)) ?_
            simp (maxSteps := 2000000) (disch := first | omega | (simp only [AH.size_new, AH.size_put] <;> omega) | fail) only [amX2 Tryd.prog ro X, amX Tryd.prog ro X, amR Tryd.prog ro X, amS, seval, reduceCtorEq, ty3, ty4, ty9, ty29, ty47, ty53, ty55, ty67, ty69, ty88, e2, e3, e4, e5, e6, gaH, gp, eb, hapD, gpD, htlen, hsbound]
            have gcD := (hgD.get (A.size + 1 + 1) (by omega) (.inl (by omega))).trans gcH
            by_cases hbig : (5000 : Int) < (insAll x.1 x.2.1 y.2.1).length
            · simp (maxSteps := 2000000) (disch := first | omega | (simp only [AH.size_new, AH.size_put] <;> omega) | fail) only [amX2 Tryd.prog ro X, amX Tryd.prog ro X, amR Tryd.prog ro X, amS, seval, reduceCtorEq, ty3, ty4, ty9, ty29, ty47, ty53, ty55, ty67, ty69, ty88, e2, e3, e4, e5, e6, gcD, htlen, hbig]
              exact ⟨_, [], rfl, by rw [mergeR_3 hS hS2 hw hcl (.inl (by omega))]; exact Put.bare_rep _ 3 _ _ Put.e0 Put.e0, ⟨(by first | omega | (simp only [AH.size_new, AH.size_put] <;> omega)), fun b hb => by rw [AH.get_put_other (by omega), AH.get_put_other (by omega)]; exact (hgD.get b (by omega) (.inl (by omega))).trans (hEAH.get b hb)⟩⟩
            · simp (maxSteps := 2000000) (disch := first | omega | (simp only [AH.size_new, AH.size_put] <;> omega) | fail) only [amX2 Tryd.prog ro X, amX Tryd.prog ro X, amR Tryd.prog ro X, amS, seval, reduceCtorEq, ty3, ty4, ty9, ty29, ty47, ty53, ty55, ty67, ty69, ty88, e2, e3, e4, e5, e6, htlen, hbig]
              generalize hH2 : D.put B.size _ = H2
              have z2 : H2.size = D.size := by rw [← hH2]; rfl
              have g2 : ∀ b, b ≠ B.size → H2.get b = D.get b := fun b hb => by rw [← hH2]; exact AH.get_put_other hb
              have gp2 : H2.get B.size = .cells [.int .i64 x.1, t.v, t2.v] 3 := by rw [← hH2]; exact AH.get_put_self _ _ _
              have hacc0 : Acc C.size H2 t (insAll x.1 x.2.1 y.2.1) [] := haccD.frame (by omega) (fun z hz h => g2 z (by rcases h with h | h; omega; simp at h))
              obtain ⟨K, hK, frK⟩ := hacc0.fresh (Fresh.nil C H2)
              have ga2 := (g2 A.size (by omega)).trans ((hgD.get A.size (by omega) (.inl (by omega))).trans gaH)
              have gb2 := (g2 (A.size + 1) (by omega)).trans gbD
              have gc2 := (g2 (A.size + 1 + 1) (by omega)).trans gcD
              have hEA2 : Ext A H2 := ⟨by omega, fun b hb => (g2 b (by omega)).trans ((hgD.get b (by omega) (.inl (by omega))).trans (hEAH.get b hb))⟩
              have hacc2 : Acc lo H2 t2 x.2.2 G2 := (hacc.ext hEC).frame (by omega) (fun b hb h => by
                have hbB : b < B.size := by
                  rcases h with ⟨_, _, h⟩ | h
                  · omega
                  · exact (hG2 b h).2
                exact (g2 b (by omega)).trans ((hgD.get b (by omega) (.inl (by omega))).trans (hX.get b hb (by simp; omega))))
              clear hgD hapD gpD gbD gcD gaH gbH gcH gp haccs hsum ho1 ho2 eb e6 e7
              refine Wp.loopC (fun n e J => (H2.size ≤ J.size ∧ ∀ b, b < H2.size → b ≠ B.size → (b < lo ∨ b ≠ t2.b) → J.get b = H2.get b) ∧ e 2 = .pointer (some ⟨A.size, 0, none⟩) ∧ e 3 = .pointer (some ⟨A.size + 1, 0, none⟩) ∧ e 4 = .pointer (some ⟨A.size + 1 + 1, 0, none⟩) ∧ e 5 = .pointer (some ⟨B.size, 0, none⟩) ∧
                ∃ i : Nat, i ≤ y.2.2.length ∧ n = y.2.2.length - i ∧ e 9 = .int .i64 i ∧ ∃ v G, Acc lo J v (x.2.2 ++ newRecs x.2.2 (y.2.2.take i)) G ∧ (G.Nodup ∧ ∀ b ∈ G, lo ≤ b ∧ b < J.size ∧ (b ∈ G2 ∨ H2.size ≤ b)) ∧ (v.nl = true ∨ v.b < J.size) ∧ (v.b = t2.b ∧ v.nl = t2.nl ∨ H2.size ≤ v.b ∧ v.nl = false) ∧ J.get B.size = .cells [.int .i64 x.1, t.v, v.v] 3) (y.2.2.length - 0) ?_ ?_
              · simp (maxSteps := 2000000) (disch := first | omega | (simp only [AH.size_new, AH.size_put] <;> omega) | fail) only [amV, amH, amQ, amL, amN Tryd.prog, amS, seval, reduceCtorEq, ty3, ty4, ty9, ty29, ty47, ty53, ty55, ty67, ty69, ty88, e2, e3, e4, e5]
                exact ⟨fun _ _ _ _ => trivial, 0, by omega, rfl, rfl, t2, G2, by simpa [newRecs] using hacc2, ⟨hn2, fun b hb => ⟨(hG2 b hb).1, by have := (hG2 b hb).2; omega, .inl hb⟩⟩, hub.imp id fun h => by omega, .inl ⟨rfl, rfl⟩, gp2⟩
              · clear e2 e3 e4 e5
                rintro n e J ⟨⟨hzJ, hJ⟩, e2, e3, e4, e5, i, hi, rfl, e9, v, G, haccJ, ⟨hGn, hGb⟩, hvb, hvt, gpJ⟩
                have gaJ := (hJ A.size (by omega) (by omega) (.inl (by omega))).trans ga2
                have gbJ := (hJ (A.size + 1) (by omega) (by omega) (.inl (by omega))).trans gb2
                have gcJ := (hJ (A.size + 1 + 1) (by omega) (by omega) (.inl (by omega))).trans gc2
                have hEAJ : Ext A J := ⟨by have := hEA2.size; omega, fun b hb => (hJ b (by omega) (by omega) (.inl (by omega))).trans (hEA2.get b hb)⟩
                have hnl : (newRecs x.2.2 (y.2.2.take i)).length ≤ 2000 := by
                  have := newRecs_le x.2.2 (y.2.2.take i)
                  rw [List.length_take] at this
                  omega
                simp (maxSteps := 2000000) (disch := first | omega | (simp only [AH.size_new, AH.size_put] <;> omega) | fail) only [amR Tryd.prog ro X, amS, seval, reduceCtorEq, ty3, ty4, ty9, ty29, ty47, ty53, ty55, ty67, ty69, ty88, e3, e9, gbJ, kl2]
                refine CondB.split (fun h => ?_) (fun h => ?_)
                · have hil : i < y.2.2.length := by simpa using h
                  have hsucc := newRecs_succ x.2.2 hil
                  have hyl := hq _ (List.getElem_mem hil)
                  have hyl2 := (hS2.2.2.2.2.2 _ (List.getElem_mem hil)).2.1
                  simp (maxSteps := 2000000) (disch := first | omega | (simp only [AH.size_new, AH.size_put] <;> omega) | fail) only [amR Tryd.prog ro X, amS, seval, reduceCtorEq, ty3, ty4, ty9, ty29, ty47, ty53, ty55, ty67, ty69, ty88, e2, e3, e4, e5, e9]
                  refine Wp.loopC (fun n e Q => Ext J Q ∧ e 2 = .pointer (some ⟨A.size, 0, none⟩) ∧ e 3 = .pointer (some ⟨A.size + 1, 0, none⟩) ∧ e 4 = .pointer (some ⟨A.size + 1 + 1, 0, none⟩) ∧ e 5 = .pointer (some ⟨B.size, 0, none⟩) ∧ e 9 = .int .i64 i ∧
                    ∃ k : Nat, k ≤ x.2.2.length ∧ n = x.2.2.length - k ∧ e 11 = .int .i64 k ∧ e 10 = .bool ((x.2.2.take k).any fun z => decide (z = y.2.2[i]))) (x.2.2.length - 0) ?_ ?_
                  · simp (maxSteps := 2000000) (disch := first | omega | (simp only [AH.size_new, AH.size_put] <;> omega) | fail) only [amV, amH, amQ, amL, amN Tryd.prog, amS, seval, reduceCtorEq, ty3, ty4, ty9, ty29, ty47, ty53, ty55, ty67, ty69, ty88, e2, e3, e4, e5, e9]
                    exact ⟨Ext.refl _, 0, by omega, rfl, rfl, by simp⟩
                  · clear e2 e3 e4 e5 e9
                    rintro n e Q ⟨hEQ, e2, e3, e4, e5, e9, k, hk, rfl, e11, e10⟩
                    have zQ := hEQ.size
                    have gaQ := (hEQ.get A.size (by omega)).trans gaJ
                    have gbQ := (hEQ.get (A.size + 1) (by omega)).trans gbJ
                    simp (maxSteps := 2000000) (disch := first | omega | (simp only [AH.size_new, AH.size_put] <;> omega) | fail) only [amR Tryd.prog ro X, amS, seval, reduceCtorEq, ty3, ty4, ty9, ty29, ty47, ty53, ty55, ty67, ty69, ty88, e2, e11, gaQ, hl2]
                    refine CondB.split (fun h => ?_) (fun h => ?_)
                    · have hkl : k < x.2.2.length := by simpa using h
                      obtain ⟨n2, b2, i2, w3, w4, M3, M4, rr2, d3, d4, z2', _⟩ := (h2.ext (hEAJ.trans hEQ)).record hkl
                      obtain ⟨n1, b1, i1, w1, w2, M1, M2, rr, d1, d2, z1, _⟩ := (k2.ext (hEAJ.trans hEQ)).record hil
                      have hany := any_succ y.2.2[i] hkl
                      simp (maxSteps := 2000000) (disch := first | omega | (simp only [AH.size_new, AH.size_put] <;> omega) | fail) only [amR Tryd.prog ro X, amS, seval, reduceCtorEq, ty3, ty4, ty9, ty29, ty47, ty53, ty55, ty67, ty69, ty88, e2, e3, e4, e5, e9, e10, e11]
                      refine WpH (Q.size) [] (by kernel_rfl) (.inl (by kernel_rfl)) ?_
                      cases hb : ((x.2.2.take k).any fun z => decide (z = y.2.2[i])) with
                      | true =>
                        rw [hb] at e10 hany
                        simp (maxSteps := 2000000) (disch := first | omega | (simp only [AH.size_new, AH.size_put] <;> omega) | fail) only [amX2 Tryd.prog ro X, amX Tryd.prog ro X, amR Tryd.prog ro X, amS, seval, reduceCtorEq, ty3, ty4, ty9, ty29, ty47, ty53, ty55, ty67, ty69, ty88, e2, e3, e4, e5, e9, e10, e11]
                        exact ⟨x.2.2.length - (k + 1), by omega, hEQ, k + 1, by omega, rfl, by simp, by rw [hany]; rfl⟩
                      | false =>
                        rw [hb] at e10 hany
                        simp (maxSteps := 2000000) (disch := first | omega | (simp only [AH.size_new, AH.size_put] <;> omega) | fail) only [amX2 Tryd.prog ro X, amX Tryd.prog ro X, amR Tryd.prog ro X, amS, seval, reduceCtorEq, ty3, ty4, ty9, ty29, ty47, ty53, ty55, ty67, ty69, ty88, e2, e3, e4, e5, e9, e10, e11, gaQ, gbQ, hl2, kl2, n1, n2, rr, rr2]
                        refine (Same.spec.l6Same_a _ (by first | omega | (simp only [AH.size_new, AH.size_put] <;> omega)) w3 w4 w1 w2 x.2.2[k] y.2.2[i] M3 M4 M1 M2 d3 d4 d1 d2 (by have := hp _ (List.getElem_mem hkl); omega) (by have := (hS.2.2.2.2.2 _ (List.getElem_mem hkl)).2.1; omega)).mono ?_
                        rintro r V ⟨rfl, hEV⟩
                        simp (maxSteps := 2000000) (disch := first | omega | (simp only [AH.size_new, AH.size_put] <;> omega) | fail) only [amX2 Tryd.prog ro X, amX Tryd.prog ro X, amR Tryd.prog ro X, amS, seval, reduceCtorEq, ty3, ty4, ty9, ty29, ty47, ty53, ty55, ty67, ty69, ty88, e2, e3, e4, e5, e9, e10, e11]
                        exact ⟨x.2.2.length - (k + 1), by omega, hEQ.trans hEV, k + 1, by omega, rfl, by simp, by rw [hany]; simp⟩
                    · have hkl : k = x.2.2.length := by simp at h; omega
                      subst hkl
                      rw [List.take_length] at e10
                      have haccQ : Acc lo Q v (x.2.2 ++ newRecs x.2.2 (y.2.2.take i)) G := haccJ.ext hEQ
                      have gpQ := (hEQ.get B.size (by omega)).trans gpJ
                      cases hb : (x.2.2.any fun z => decide (z = y.2.2[i])) with
                      | true =>
                        rw [hb] at e10
                        rw [if_pos hb, List.append_nil] at hsucc
                        simp (maxSteps := 2000000) (disch := first | omega | (simp only [AH.size_new, AH.size_put] <;> omega) | fail) only [amR Tryd.prog ro X, amS, seval, reduceCtorEq, ty3, ty4, ty9, ty29, ty47, ty53, ty55, ty67, ty69, ty88, e2, e3, e4, e5, e9, e10]
                        refine ⟨y.2.2.length - (i + 1), by omega, ⟨by omega, fun b hb1 hb2 hb3 => (hEQ.get b (by omega)).trans (hJ b hb1 hb2 hb3)⟩, i + 1, by omega, rfl, by simp, v, G, by rw [hsucc]; exact haccQ, ⟨hGn, fun b hb => ⟨(hGb b hb).1, by have := (hGb b hb).2.1; omega, (hGb b hb).2.2⟩⟩, hvb.imp id fun h => by omega, hvt, gpQ⟩
                      | false =>
                        rw [hb] at e10
                        have hne : ¬ (x.2.2.any fun z => decide (z = y.2.2[i])) = true := by rw [hb]; simp
                        rw [if_neg hne] at hsucc
                        obtain ⟨n1, b1, i1, w1, w2, M1, M2, rr, d1, d2, z1, _⟩ := (k2.ext (hEAJ.trans hEQ)).record hil
                        simp (maxSteps := 2000000) (disch := first | omega | (simp only [AH.size_new, AH.size_put] <;> omega) | fail) only [amR Tryd.prog ro X, amS, seval, reduceCtorEq, ty3, ty4, ty9, ty29, ty47, ty53, ty55, ty67, ty69, ty88, e2, e3, e4, e5, e9, e10]
                        refine WpH (Q.size) [7] (by kernel_rfl) (.inl (by kernel_rfl)) ?_
                        simp (maxSteps := 2000000) (disch := first | omega | (simp only [AH.size_new, AH.size_put] <;> omega) | fail) only [amX2 Tryd.prog ro X, amX Tryd.prog ro X, amR Tryd.prog ro X, amS, seval, reduceCtorEq, ty3, ty4, ty9, ty29, ty47, ty53, ty55, ty67, ty69, ty88, e2, e3, e4, e5, e9, e10, gpQ, gbQ, kl2, n1, rr]
                        refine (Put.spec.l4Record_a _ (by first | omega | (simp only [AH.size_new, AH.size_put] <;> omega)) w1 w2 y.2.2[i] M1 M2 d1 d2 hyl (by omega)).mono ?_
                        rintro r V ⟨t3, t4, G3, G4, rfl, q3, q4, fr3, hEV⟩
                        have zV := hEV.size
                        have hbnd : v.b < Q.size := haccQ.bub (hvb.imp id fun h => by omega) (by omega)
                        obtain ⟨v2', A8, hap2, hs', hg, hz8, hv8⟩ := (haccQ.ext hEV).lit (P := Tryd.prog) (ro := ro) (t := 53) (n := 1) (vs := [t3.v, t4.v, .string y.2.2[i].2.2]) (xs := [y.2.2[i]]) (Gx := G3 ++ G4) (by omega) (by simp only [ty53]; rfl) rfl (Reps.one (rep_Record.2 ⟨t3, t4, G3, G4, rfl, rfl, q3, q4, by show y.2.2[i].2.2.size < _; unfold BIG; omega⟩)) (.inr fun hm => by have := fr3.lo _ hm; omega) (by rw [List.length_append]; omega) (by omega)
                        rw [show Dat.w TRecord = 3 from rfl] at hap2
                        have hvB : v.b ≠ B.size := by rcases hvt with ⟨h, _⟩ | ⟨h, _⟩ <;> omega
                        have gpV := (hEV.get B.size (by omega)).trans gpQ
                        have gp8 := (hg.get B.size (by omega) (.inr (fun h => hvB h.symm))).trans gpV
                        simp (maxSteps := 2000000) (disch := first | omega | (simp only [AH.size_new, AH.size_put] <;> omega) | fail) only [amX2 Tryd.prog ro X, amX Tryd.prog ro X, amR Tryd.prog ro X, amS, seval, reduceCtorEq, ty3, ty4, ty9, ty29, ty47, ty53, ty55, ty67, ty69, ty88, e2, e3, e4, e5, e9, hap2, gpV, gp8]
                        obtain ⟨y1, y2, y3⟩ := hs'.lt (List.append_ne_nil_of_right_ne_nil _ (by simp))
                        have hv2B : v2'.b ≠ B.size := by rcases hv8 with ⟨_, h⟩ | ⟨h, _⟩ <;> omega
                        have hz9 := hg.size
                        refine ⟨fun b hb => hEV.get b hb, y.2.2.length - (i + 1), by omega, ⟨(by first | omega | (simp only [AH.size_new, AH.size_put] <;> omega)), fun b hb1 hb2 hb3 => ?_⟩, i + 1, by omega, rfl, by simp, v2', G ++ (G3 ++ G4), ?_, ⟨?_, ?_⟩, .inr (by first | omega | (simp only [AH.size_new, AH.size_put] <;> omega)), ?_, rfl⟩
                        · rw [AH.get_put_other hb2]
                          refine (hg.get b (by omega) ?_).trans ((hEV.get b (by omega)).trans ((hEQ.get b (by omega)).trans (hJ b hb1 hb2 hb3)))
                          rcases hvt with ⟨h, _⟩ | ⟨h, _⟩
                          · rw [h]; exact hb3
                          · exact .inr (by omega)
                        · rw [hsucc, ← List.append_assoc]
                          refine hs'.frame (Nat.le_refl _) (fun z hz h => AH.get_put_other ?_)
                          rcases h with ⟨_, _, h⟩ | h
                          · omega
                          · rcases List.mem_append.1 h with h | h
                            · have := (hGb z h).2.2
                              rcases this with h2 | h2
                              · have := (hG2 z h2).2; omega
                              · omega
                            · have := fr3.lo z h; omega
                        · exact List.nodup_append.2 ⟨hGn, fr3.nodup, fun a ha b hb e => by have := (hGb a ha).2.1; have := fr3.lo b hb; omega⟩
                        · intro b hb
                          rcases List.mem_append.1 hb with h | h
                          · have := (hGb b h).1; have h2 := (hGb b h).2.1; exact ⟨this, (by first | omega | (simp only [AH.size_new, AH.size_put] <;> omega)), (hGb b h).2.2⟩
                          · have := fr3.lo b h; have := fr3.hi b h; exact ⟨by omega, (by first | omega | (simp only [AH.size_new, AH.size_put] <;> omega)), .inr (by omega)⟩
                        · rcases hv8 with ⟨h1', h2'⟩ | ⟨h1', h2'⟩
                          · rcases hvt with ⟨h3, h4⟩ | ⟨h3, h4⟩
                            · exact .inl ⟨h2'.trans h3, h1'.trans h4⟩
                            · exact .inr ⟨by omega, h1'.trans h4⟩
                          · exact .inr ⟨by omega, h2'⟩
                · have hil : i = y.2.2.length := by simp at h; omega
                  subst hil
                  rw [List.take_length] at haccJ
                  obtain ⟨F, f1, f2, f3, f4⟩ := haccJ.foot (fun b hb => (hGb b hb).1) hGn
                  have hvlen := haccJ.len
                  by_cases hrb : (2000 : Int) < (x.2.2 ++ newRecs x.2.2 y.2.2).length
                  · simp (maxSteps := 2000000) (disch := first | omega | (simp only [AH.size_new, AH.size_put] <;> omega) | fail) only [amR Tryd.prog ro X, amS, seval, reduceCtorEq, ty3, ty4, ty9, ty29, ty47, ty53, ty55, ty67, ty69, ty88, e2, e3, e4, e5, gpJ, gcJ, hvlen, hrb]
                    exact ⟨_, [], rfl, by rw [mergeR_3 hS hS2 hw hcl (.inr (by omega))]; exact Put.bare_rep _ 3 _ _ Put.e0 Put.e0, ⟨(by first | omega | (simp only [AH.size_new, AH.size_put] <;> omega)), fun b hb => by rw [AH.get_put_other (by omega)]; exact hEAJ.get b hb⟩⟩
                  · simp (maxSteps := 2000000) (disch := first | omega | (simp only [AH.size_new, AH.size_put] <;> omega) | fail) only [amR Tryd.prog ro X, amS, seval, reduceCtorEq, ty3, ty4, ty9, ty29, ty47, ty53, ty55, ty67, ty69, ty88, e2, e3, e4, e5, gpJ, gcJ, hvlen, hrb]
                    refine ⟨_, K ++ F, rfl, ?_, ⟨(by first | omega | (simp only [AH.size_new, AH.size_put] <;> omega)), fun b hb => by rw [AH.get_put_other (by omega)]; exact hEAJ.get b hb⟩⟩
                    rw [mergeR_0 hS hS2 hw hcl (by omega)]
                    have hKJ : SlR J t (insAll x.1 x.2.1 y.2.1) K := hK.frame fun b hb => by
                      have c1 := frK.lo b hb; have c2 := frK.hi b hb
                      exact ⟨hJ b c2 (by omega) (.inr (by omega)), by omega⟩
                    refine rep_Kept.2 ⟨t, v, K, F, rfl, rfl, ?_, ?_, Put.e0, Put.e0⟩
                    · exact hKJ.extx ((ExtX.refl [A.size + 1 + 1] J).put (by simp) _) (fun b hb => by have := frK.lo b hb; simp; omega)
                    · exact f1.extx ((ExtX.refl [A.size + 1 + 1] J).put (by simp) _) (fun b hb => by have := f3 b hb; simp; omega)
      · simp (maxSteps := 2000000) (disch := first | omega | (simp only [AH.size_new, AH.size_put] <;> omega) | fail) only [amR Tryd.prog ro X, amS, seval, reduceCtorEq, ty3, ty4, ty9, ty29, ty47, ty53, ty55, ty67, ty69, ty88, hE1.get, hE2.get, hS2, hw]
        exact ⟨_, [], rfl, by rw [mergeR_1 (.inr (.inr hw))]; exact Put.bare_rep _ 1 _ _ Put.e0 Put.e0, (by ((repeat' (first | exact Ext.refl _ | assumption | refine Ext.trans ?_ (Ext.new _ _) | refine Ext.put ?_ ?_ _ | refine Ext.trans ?_ (by assumption))) <;> (first | omega | (simp only [AH.size_new, AH.size_put] <;> omega))))⟩
    · simp (maxSteps := 2000000) (disch := first | omega | (simp only [AH.size_new, AH.size_put] <;> omega) | fail) only [amR Tryd.prog ro X, amS, seval, reduceCtorEq, ty3, ty4, ty9, ty29, ty47, ty53, ty55, ty67, ty69, ty88, hE1.get, hE2.get, hS2]
      exact ⟨_, [], rfl, by rw [mergeR_1 (.inr (.inl hS2))]; exact Put.bare_rep _ 1 _ _ Put.e0 Put.e0, (by ((repeat' (first | exact Ext.refl _ | assumption | refine Ext.trans ?_ (Ext.new _ _) | refine Ext.put ?_ ?_ _ | refine Ext.trans ?_ (by assumption))) <;> (first | omega | (simp only [AH.size_new, AH.size_put] <;> omega))))⟩
  · simp (maxSteps := 2000000) (disch := first | omega | (simp only [AH.size_new, AH.size_put] <;> omega) | fail) only [amR Tryd.prog ro X, amS, seval, reduceCtorEq, ty3, ty4, ty9, ty29, ty47, ty53, ty55, ty67, ty69, ty88, hE1.get, hS]
    exact ⟨_, [], rfl, by rw [mergeR_1 (.inl hS)]; exact Put.bare_rep _ 1 _ _ Put.e0 Put.e0, (by ((repeat' (first | exact Ext.refl _ | assumption | refine Ext.trans ?_ (Ext.new _ _) | refine Ext.put ?_ ?_ _ | refine Ext.trans ?_ (by assumption))) <;> (first | omega | (simp only [AH.size_new, AH.size_put] <;> omega))))⟩
end Go.Proofs.YtcdnlghlbljopaaDoor.Amu.Merge
