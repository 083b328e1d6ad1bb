/- GetText. -/
import Derived.Test.YtcdnlghlbljopaaDoorAmuPlace
import Derived.Test.YtcdnlghlbljopaaDoorAmuStore
namespace Go.Proofs.YtcdnlghlbljopaaDoor.Amu.Get
open Go Go.AM Go.Proofs
set_option linter.unusedVariables false
set_option linter.unusedSimpArgs false
theorem ty3 : tKind Tryd.prog 3 = some (.int .i64) ∧ tSize Tryd.prog 3 = some 1 ∧ tAgg Tryd.prog 3 = some false ∧ tZero Tryd.prog 3 = some (.int .i64 0) := ⟨by kernel_rfl, by kernel_rfl, by kernel_rfl, by kernel_rfl⟩
theorem ty4 : tKind Tryd.prog 4 = some (.bool) ∧ tSize Tryd.prog 4 = some 1 ∧ tAgg Tryd.prog 4 = some false ∧ tZero Tryd.prog 4 = some (.bool false) := ⟨by kernel_rfl, by kernel_rfl, by kernel_rfl, by kernel_rfl⟩
theorem ty47 : tKind Tryd.prog 47 = some (.slice) ∧ tSize Tryd.prog 47 = some 1 ∧ tAgg Tryd.prog 47 = some false ∧ tZero Tryd.prog 47 = some (.slice none 0 0) ∧ tElem Tryd.prog 47 = some 9 ∧ tElemSize Tryd.prog 47 = some 1 ∧ tBytes Tryd.prog 47 = false := ⟨by kernel_rfl, by kernel_rfl, by kernel_rfl, by kernel_rfl, by kernel_rfl, by kernel_rfl, by kernel_rfl⟩
theorem ty53 : tKind Tryd.prog 53 = some (.slice) ∧ tSize Tryd.prog 53 = some 1 ∧ tAgg Tryd.prog 53 = some false ∧ tZero Tryd.prog 53 = some (.slice none 0 0) ∧ tElem Tryd.prog 53 = some 69 ∧ tElemSize Tryd.prog 53 = some 3 ∧ tBytes Tryd.prog 53 = false := ⟨by kernel_rfl, by kernel_rfl, by kernel_rfl, by kernel_rfl, by kernel_rfl, by kernel_rfl, by kernel_rfl⟩
theorem ty55 : tKind Tryd.prog 55 = some (.struct) ∧ tSize Tryd.prog 55 = some 3 ∧ tAgg Tryd.prog 55 = some true ∧ tZero Tryd.prog 55 = some (.agg #[.int .i64 0, .slice none 0 0, .slice none 0 0]) ∧ tField Tryd.prog 55 0 = some (0, 3) ∧ tField Tryd.prog 55 1 = some (1, 47) ∧ tField Tryd.prog 55 2 = some (2, 53) ∧ tPlaces Tryd.prog 55 = some [(0, 1), (1, 1), (2, 1)] := ⟨by kernel_rfl, by kernel_rfl, by kernel_rfl, by kernel_rfl, by kernel_rfl, by kernel_rfl, by kernel_rfl, by kernel_rfl⟩

variable {ro : Nat} {X : FuncId → List Value → AH → ARes → AH → Prop}
set_option maxRecDepth 10000
def getT (x : TStore) (s : ByteArray) : Option ByteArray := if StoreOk x then getR x.1 s x.2.1 else none
theorem getV_ex (o : Option ByteArray) : ∃ a b, Place.getV o = .tuple #[.string a, .bool b] := ⟨_, _, rfl⟩
theorem impl_a (A : AH) (hro : ro ≤ A.size) (hT : Tab 0 A) (s1 s2 : Sl) (x : TStore) (F1 F2 : List Nat) (h1 : SlR A s1 x.2.1 F1) (h2 : SlR A s2 x.2.2 F2) (s : ByteArray) :
    ACalls Tryd.prog ro X 32 [.agg #[.int .i64 x.1, s1.v, s2.v], .string s] A (fun r A' => r = .ret (Place.getV (getT x s)) ∧ Ext A A') := by
  refine ACalls.enterQ (rs := [.tmp 4, .tmp 5]) Tryd.func32 rfl (by kernel_rfl) rfl ?_
  simp (maxSteps := 2000000) (disch := first | omega | (simp only [AH.size_new, AH.size_put] <;> omega) | fail) only [amR Tryd.prog ro X, amS, seval, reduceCtorEq, ty3, ty4, ty47, ty53, ty55]
  refine (Store.implStore_a _ (by first | omega | (simp only [AH.size_new, AH.size_put] <;> omega)) (hT.ext (by ((repeat' (first | exact Ext.refl _ | assumption | refine Ext.trans ?_ (Ext.new _ _) | refine Ext.put ?_ ?_ _ | refine Ext.trans ?_ (by assumption))) <;> (first | omega | (simp only [AH.size_new, AH.size_put] <;> omega))))) s1 s2 x F1 F2 (h1.ext (by ((repeat' (first | exact Ext.refl _ | assumption | refine Ext.trans ?_ (Ext.new _ _) | refine Ext.put ?_ ?_ _ | refine Ext.trans ?_ (by assumption))) <;> (first | omega | (simp only [AH.size_new, AH.size_put] <;> omega))))) (h2.ext (by ((repeat' (first | exact Ext.refl _ | assumption | refine Ext.trans ?_ (Ext.new _ _) | refine Ext.put ?_ ?_ _ | refine Ext.trans ?_ (by assumption))) <;> (first | omega | (simp only [AH.size_new, AH.size_put] <;> omega)))))).mono ?_
  rintro r A1 ⟨rfl, hE1⟩
  have hz1 := hE1.size
  simp only [AH.size_new] at hz1
  have f2 := hE1.get A.size (by first | omega | (simp only [AH.size_new, AH.size_put] <;> omega))
  by_cases hS : StoreOk x
  · simp (maxSteps := 2000000) (disch := first | omega | (simp only [AH.size_new, AH.size_put] <;> omega) | fail) only [amR Tryd.prog ro X, amS, seval, reduceCtorEq, ty3, ty4, ty47, ty53, ty55, hS, f2]
    have hlen := hS.2.1
    refine (Place.get_a _ (by first | omega | (simp only [AH.size_new, AH.size_put] <;> omega)) x.1 s1 s2.v rfl s x.2.1 F1 (h1.ext (by ((repeat' (first | exact Ext.refl _ | assumption | refine Ext.trans ?_ (Ext.new _ _) | refine Ext.put ?_ ?_ _ | refine Ext.trans ?_ (by assumption))) <;> (first | omega | (simp only [AH.size_new, AH.size_put] <;> omega))))) hS.2.2.2.1 (by omega)).mono ?_
    rintro r A2 ⟨rfl, hE2⟩
    obtain ⟨a, b, hv⟩ := getV_ex (getR x.1 s x.2.1)
    rw [getT, if_pos hS, hv]
    simp (maxSteps := 2000000) (disch := first | omega | (simp only [AH.size_new, AH.size_put] <;> omega) | fail) only [amR Tryd.prog ro X, amS, seval, reduceCtorEq, ty3, ty4, ty47, ty53, ty55]
    exact (by ((repeat' (first | exact Ext.refl _ | assumption | refine Ext.trans ?_ (Ext.new _ _) | refine Ext.put ?_ ?_ _ | refine Ext.trans ?_ (by assumption))) <;> (first | omega | (simp only [AH.size_new, AH.size_put] <;> omega))))
  · simp (maxSteps := 2000000) (disch := first | omega | (simp only [AH.size_new, AH.size_put] <;> omega) | fail) only [amR Tryd.prog ro X, amS, seval, reduceCtorEq, ty3, ty4, ty47, ty53, ty55, hS]
    rw [getT, if_neg hS]
    exact ⟨rfl, (by ((repeat' (first | exact Ext.refl _ | assumption | refine Ext.trans ?_ (Ext.new _ _) | refine Ext.put ?_ ?_ _ | refine Ext.trans ?_ (by assumption))) <;> (first | omega | (simp only [AH.size_new, AH.size_put] <;> omega))))⟩
theorem spec_a (A : AH) (hro : ro ≤ A.size) (s1 s2 : Sl) (x : TStore) (F1 F2 : List Nat) (h1 : SlR A s1 x.2.1 F1) (h2 : SlR A s2 x.2.2 F2) (hb : ∀ r ∈ x.2.2, r.1.length < 281474976710656) (s : ByteArray) :
    ACalls Tryd.prog ro X 31 [.agg #[.int .i64 x.1, s1.v, s2.v], .string s] A (fun r A' => r = .ret (Place.getV (getT x s)) ∧ Ext A A') := by
  refine ACalls.enterQ (rs := [.tmp 4, .tmp 5]) Tryd.func31 rfl (by kernel_rfl) rfl ?_
  simp (maxSteps := 2000000) (disch := first | omega | (simp only [AH.size_new, AH.size_put] <;> omega) | fail) only [amR Tryd.prog ro X, amS, seval, reduceCtorEq, ty3, ty4, ty47, ty53, ty55]
  refine (Store.specStore_a _ (by first | omega | (simp only [AH.size_new, AH.size_put] <;> omega)) s1 s2 x F1 F2 (h1.ext (by ((repeat' (first | exact Ext.refl _ | assumption | refine Ext.trans ?_ (Ext.new _ _) | refine Ext.put ?_ ?_ _ | refine Ext.trans ?_ (by assumption))) <;> (first | omega | (simp only [AH.size_new, AH.size_put] <;> omega))))) (h2.ext (by ((repeat' (first | exact Ext.refl _ | assumption | refine Ext.trans ?_ (Ext.new _ _) | refine Ext.put ?_ ?_ _ | refine Ext.trans ?_ (by assumption))) <;> (first | omega | (simp only [AH.size_new, AH.size_put] <;> omega))))) hb).mono ?_
  rintro r A1 ⟨rfl, hE1⟩
  have hz1 := hE1.size
  simp only [AH.size_new] at hz1
  have f2 := hE1.get A.size (by first | omega | (simp only [AH.size_new, AH.size_put] <;> omega))
  by_cases hS : StoreOk x
  · simp (maxSteps := 2000000) (disch := first | omega | (simp only [AH.size_new, AH.size_put] <;> omega) | fail) only [amR Tryd.prog ro X, amS, seval, reduceCtorEq, ty3, ty4, ty47, ty53, ty55, hS, f2]
    have hlen := hS.2.1
    refine (Place.l4Get_a _ (by first | omega | (simp only [AH.size_new, AH.size_put] <;> omega)) x.1 s1 s2.v rfl s x.2.1 F1 (h1.ext (by ((repeat' (first | exact Ext.refl _ | assumption | refine Ext.trans ?_ (Ext.new _ _) | refine Ext.put ?_ ?_ _ | refine Ext.trans ?_ (by assumption))) <;> (first | omega | (simp only [AH.size_new, AH.size_put] <;> omega))))) (by omega)).mono ?_
    rintro r A2 ⟨rfl, hE2⟩
    obtain ⟨a, b, hv⟩ := getV_ex (getR x.1 s x.2.1)
    rw [getT, if_pos hS, hv]
    simp (maxSteps := 2000000) (disch := first | omega | (simp only [AH.size_new, AH.size_put] <;> omega) | fail) only [amR Tryd.prog ro X, amS, seval, reduceCtorEq, ty3, ty4, ty47, ty53, ty55]
    exact (by ((repeat' (first | exact Ext.refl _ | assumption | refine Ext.trans ?_ (Ext.new _ _) | refine Ext.put ?_ ?_ _ | refine Ext.trans ?_ (by assumption))) <;> (first | omega | (simp only [AH.size_new, AH.size_put] <;> omega))))
  · simp (maxSteps := 2000000) (disch := first | omega | (simp only [AH.size_new, AH.size_put] <;> omega) | fail) only [amR Tryd.prog ro X, amS, seval, reduceCtorEq, ty3, ty4, ty47, ty53, ty55, hS]
    rw [getT, if_neg hS]
    exact ⟨rfl, (by ((repeat' (first | exact Ext.refl _ | assumption | refine Ext.trans ?_ (Ext.new _ _) | refine Ext.put ?_ ?_ _ | refine Ext.trans ?_ (by assumption))) <;> (first | omega | (simp only [AH.size_new, AH.size_put] <;> omega))))⟩
end Go.Proofs.YtcdnlghlbljopaaDoor.Amu.Get
