import Derived.Test.YtjlbcofopapajaaDoorAmuTy
import Derived.Test.YtjlbcofopapajaaDoorAmTX
import Derived.Test.YtjlbcofopapajaaDoorAmuLawA
import Derived.Test.YtjlbcofopapajaaDoorProg
namespace Go.Proofs.YtjlbcofopapajaaDoor.Amu.Prog
open Go Go.AM Go.Proofs
set_option linter.all false
open Ty
variable {ro : Nat} {X : FuncId → List Value → AH → ARes → AH → Prop}
set_option maxRecDepth 10000
theorem l2Word_a (A : AH) (op : Int) : ACalls Tryd.prog ro X 116 [.int .i64 op] A (fun r A' => r = .ret (.tuple #[.string (opWord op), .int .i64 (opNo op)]) ∧ A' = A) := by
 refine ACalls.enterQ (rs := [.tmp 2, .tmp 3]) Tryd.func116 rfl (by kernel_rfl) rfl ?_
 by_cases h : 1 ≤ op ∧ op ≤ 15
 ·rcases op_cases h.1 h.2 with rfl | rfl | rfl | rfl | rfl | rfl | rfl | rfl | rfl | rfl | rfl | rfl | rfl | rfl | rfl <;> simp (disch := first | omega | fail) only [amR Tryd.prog ro X, amS, seval, reduceCtorEq, ty3] <;> rfl
 ·have h1 : ¬ op = 1 := by omega
  have h2 : ¬ op = 2 := by omega
  have h3 : ¬ op = 3 := by omega
  have h4 : ¬ op = 4 := by omega
  have h5 : ¬ op = 5 := by omega
  have h6 : ¬ op = 6 := by omega
  have h7 : ¬ op = 7 := by omega
  have h8 : ¬ op = 8 := by omega
  have h9 : ¬ op = 9 := by omega
  have h10 : ¬ op = 10 := by omega
  have h11 : ¬ op = 11 := by omega
  have h12 : ¬ op = 12 := by omega
  have h13 : ¬ op = 13 := by omega
  have h14 : ¬ op = 14 := by omega
  have h15 : ¬ op = 15 := by omega
  simp (disch := first | omega | fail) only [amR Tryd.prog ro X, amS, seval, reduceCtorEq, ty3, h1, h2, h3, h4, h5, h6, h7, h8, h9, h10, h11, h12, h13, h14, h15]
  simp [opWord, opNo, opKd, opRow_out h]
theorem l2InsOk_a (A : AH) (hro : ro ≤ A.size) (x : TIns) (hx : x.2.1.size < 4611686018427387904) :
 ACalls Tryd.prog ro X 101 [.agg #[.int .i64 x.1, .string x.2.1, .int .i64 x.2.2]] A (fun r A' => r = .ret (.bool (decide (InsOk x))) ∧ Ext A A') := by
 refine ACalls.enterQ (rs := [.tmp 2]) Tryd.func101 rfl (by kernel_rfl) rfl ?_
 simp (disch := first | omega | fail) only [amR Tryd.prog ro X, amS, seval, reduceCtorEq, ty3, ty9, ty97]
 refine (l2Word_a _ x.1).mono ?_
 rintro r A2 ⟨rfl, rfl⟩
 have hi := InsOk_iff x
 by_cases hw : opWord x.1 = ⟨#[]⟩
 ·simp (disch := first | omega | fail) only [amR Tryd.prog ro X, amS, seval, reduceCtorEq, ty3, ty9, ty97, hw]
  refine ⟨?_, (by ((repeat' (first | exact Ext.refl _ | assumption | refine Ext.trans ?_ (Ext.new _ _) | refine Ext.put ?_ ?_ _ | refine Ext.trans ?_ (by assumption))) <;> (first | omega | (simp only [AH.zN, AH.zP] <;> omega))))⟩
  rw [decide_eq_false]
  intro h
  exact opWord_ne h.1 h.2.1 hw
 have hr : 1 ≤ x.1 ∧ x.1 ≤ 15 := by
  refine Classical.byContradiction fun h => hw ?_
  simp [opWord, opRow_out h]
 rcases kd_cases x.1 with ⟨k1, k2, k3⟩ | ⟨k1, k2, k3⟩ | ⟨k1, k2, k3⟩ | ⟨k1, k2, k3⟩ <;> rw [k1, k2] at hi
 ·by_cases h3 : (2000 : Int) < x.2.1.size
  ·simp (disch := first | omega | fail) only [amR Tryd.prog ro X, amS, seval, reduceCtorEq, ty3, ty9, ty97, hw, k3, h3]
   exact ⟨by rw [decide_eq_false]; rw [hi]; omega, (by ((repeat' (first | exact Ext.refl _ | assumption | refine Ext.trans ?_ (Ext.new _ _) | refine Ext.put ?_ ?_ _ | refine Ext.trans ?_ (by assumption))) <;> (first | omega | (simp only [AH.zN, AH.zP] <;> omega))))⟩
  ·simp (disch := first | omega | fail) only [amR Tryd.prog ro X, amS, seval, reduceCtorEq, ty3, ty9, ty97, hw, k3, h3]
   refine ⟨?_, (by ((repeat' (first | exact Ext.refl _ | assumption | refine Ext.trans ?_ (Ext.new _ _) | refine Ext.put ?_ ?_ _ | refine Ext.trans ?_ (by assumption))) <;> (first | omega | (simp only [AH.zN, AH.zP] <;> omega))))⟩
   congr 3
   rw [hi]
   simp
   omega
 ·by_cases he : x.2.1 = ⟨#[]⟩
  ·have hz : ¬ ((2000 : Int) < x.2.1.size) := by rw [he]; decide
   by_cases h4 : 0 ≤ x.2.2
   ·by_cases h5 : x.2.2 ≤ 2000
    ·simp (disch := first | omega | fail) only [amR Tryd.prog ro X, amS, seval, reduceCtorEq, ty3, ty9, ty97, hw, k3, he, hz, h4, h5]
     exact ⟨by rw [decide_eq_true]; rw [hi]; exact ⟨by omega, by omega, by omega, h4, h5, .inr he⟩, (by ((repeat' (first | exact Ext.refl _ | assumption | refine Ext.trans ?_ (Ext.new _ _) | refine Ext.put ?_ ?_ _ | refine Ext.trans ?_ (by assumption))) <;> (first | omega | (simp only [AH.zN, AH.zP] <;> omega))))⟩
    ·simp (disch := first | omega | fail) only [amR Tryd.prog ro X, amS, seval, reduceCtorEq, ty3, ty9, ty97, hw, k3, he, hz, h4, h5]
     exact ⟨by rw [decide_eq_false]; rw [hi]; omega, (by ((repeat' (first | exact Ext.refl _ | assumption | refine Ext.trans ?_ (Ext.new _ _) | refine Ext.put ?_ ?_ _ | refine Ext.trans ?_ (by assumption))) <;> (first | omega | (simp only [AH.zN, AH.zP] <;> omega))))⟩
   ·simp (disch := first | omega | fail) only [amR Tryd.prog ro X, amS, seval, reduceCtorEq, ty3, ty9, ty97, hw, k3, he, hz, h4]
    exact ⟨by rw [decide_eq_false]; rw [hi]; omega, (by ((repeat' (first | exact Ext.refl _ | assumption | refine Ext.trans ?_ (Ext.new _ _) | refine Ext.put ?_ ?_ _ | refine Ext.trans ?_ (by assumption))) <;> (first | omega | (simp only [AH.zN, AH.zP] <;> omega))))⟩
  ·simp (disch := first | omega | fail) only [amR Tryd.prog ro X, amS, seval, reduceCtorEq, ty3, ty9, ty97, hw, k3, he]
   exact ⟨by rw [decide_eq_false]; rw [hi]; intro h; rcases h.2.2.2.2.2 with h | h; exact absurd h (by decide); exact he h, (by ((repeat' (first | exact Ext.refl _ | assumption | refine Ext.trans ?_ (Ext.new _ _) | refine Ext.put ?_ ?_ _ | refine Ext.trans ?_ (by assumption))) <;> (first | omega | (simp only [AH.zN, AH.zP] <;> omega))))⟩
 ·by_cases he : x.2.1 = ⟨#[]⟩
  ·have hz : ¬ ((2000 : Int) < x.2.1.size) := by rw [he]; decide
   by_cases h4 : 0 ≤ x.2.2
   ·by_cases h5 : x.2.2 ≤ 200
    ·simp (disch := first | omega | fail) only [amR Tryd.prog ro X, amS, seval, reduceCtorEq, ty3, ty9, ty97, hw, k3, he, hz, h4, h5]
     exact ⟨by rw [decide_eq_true]; rw [hi]; exact ⟨by omega, by omega, by omega, h4, h5, .inr he⟩, (by ((repeat' (first | exact Ext.refl _ | assumption | refine Ext.trans ?_ (Ext.new _ _) | refine Ext.put ?_ ?_ _ | refine Ext.trans ?_ (by assumption))) <;> (first | omega | (simp only [AH.zN, AH.zP] <;> omega))))⟩
    ·simp (disch := first | omega | fail) only [amR Tryd.prog ro X, amS, seval, reduceCtorEq, ty3, ty9, ty97, hw, k3, he, hz, h4, h5]
     exact ⟨by rw [decide_eq_false]; rw [hi]; omega, (by ((repeat' (first | exact Ext.refl _ | assumption | refine Ext.trans ?_ (Ext.new _ _) | refine Ext.put ?_ ?_ _ | refine Ext.trans ?_ (by assumption))) <;> (first | omega | (simp only [AH.zN, AH.zP] <;> omega))))⟩
   ·simp (disch := first | omega | fail) only [amR Tryd.prog ro X, amS, seval, reduceCtorEq, ty3, ty9, ty97, hw, k3, he, hz, h4]
    exact ⟨by rw [decide_eq_false]; rw [hi]; omega, (by ((repeat' (first | exact Ext.refl _ | assumption | refine Ext.trans ?_ (Ext.new _ _) | refine Ext.put ?_ ?_ _ | refine Ext.trans ?_ (by assumption))) <;> (first | omega | (simp only [AH.zN, AH.zP] <;> omega))))⟩
  ·simp (disch := first | omega | fail) only [amR Tryd.prog ro X, amS, seval, reduceCtorEq, ty3, ty9, ty97, hw, k3, he]
   exact ⟨by rw [decide_eq_false]; rw [hi]; intro h; rcases h.2.2.2.2.2 with h | h; exact absurd h (by decide); exact he h, (by ((repeat' (first | exact Ext.refl _ | assumption | refine Ext.trans ?_ (Ext.new _ _) | refine Ext.put ?_ ?_ _ | refine Ext.trans ?_ (by assumption))) <;> (first | omega | (simp only [AH.zN, AH.zP] <;> omega))))⟩
 ·by_cases he : x.2.1 = ⟨#[]⟩
  ·have hz : ¬ ((2000 : Int) < x.2.1.size) := by rw [he]; decide
   simp (disch := first | omega | fail) only [amR Tryd.prog ro X, amS, seval, reduceCtorEq, ty3, ty9, ty97, hw, k3, he, hz]
   refine ⟨?_, (by ((repeat' (first | exact Ext.refl _ | assumption | refine Ext.trans ?_ (Ext.new _ _) | refine Ext.put ?_ ?_ _ | refine Ext.trans ?_ (by assumption))) <;> (first | omega | (simp only [AH.zN, AH.zP] <;> omega))))⟩
   congr 3
   rw [hi]
   exact propext ⟨fun h => ⟨by omega, by omega, by omega, by omega, by omega, .inr he⟩, fun h => by omega⟩
  ·simp (disch := first | omega | fail) only [amR Tryd.prog ro X, amS, seval, reduceCtorEq, ty3, ty9, ty97, hw, k3, he]
   exact ⟨by rw [decide_eq_false]; rw [hi]; intro h; rcases h.2.2.2.2.2 with h | h; exact absurd h (by decide); exact he h, (by ((repeat' (first | exact Ext.refl _ | assumption | refine Ext.trans ?_ (Ext.new _ _) | refine Ext.put ?_ ?_ _ | refine Ext.trans ?_ (by assumption))) <;> (first | omega | (simp only [AH.zN, AH.zP] <;> omega))))⟩
theorem validIns_a (A : AH) (hro : ro ≤ A.size) (hT : Tab 0 A) (x : TIns) (hx : x.2.1.size < 4611686018427387904) :
 ACalls Tryd.prog ro X 102 [.agg #[.int .i64 x.1, .string x.2.1, .int .i64 x.2.2]] A (fun r A' => r = .ret (.bool (decide (InsOk x))) ∧ Ext A A') := by
 obtain ⟨s, c, g1, g2, g3, g4, g5, g6, g7, g8⟩ := hT.at
 refine ACalls.enterQ (rs := [.tmp 2]) Tryd.func102 rfl (by kernel_rfl) rfl ?_
 have hi := InsOk_iff x
 by_cases h1 : x.1 < 1
 ·simp (disch := first | omega | fail) only [amR Tryd.prog ro X, amS, seval, reduceCtorEq, ty3, ty5, ty9, ty97, ty188, ty189, h1]
  exact ⟨by rw [decide_eq_false]; rw [hi]; omega, (by ((repeat' (first | exact Ext.refl _ | assumption | refine Ext.trans ?_ (Ext.new _ _) | refine Ext.put ?_ ?_ _ | refine Ext.trans ?_ (by assumption))) <;> (first | omega | (simp only [AH.zN, AH.zP] <;> omega))))⟩
 by_cases h2 : 15 < x.1
 ·simp (disch := first | omega | fail) only [amR Tryd.prog ro X, amS, seval, reduceCtorEq, ty3, ty5, ty9, ty97, ty188, ty189, h1, h2]
  exact ⟨by rw [decide_eq_false]; rw [hi]; omega, (by ((repeat' (first | exact Ext.refl _ | assumption | refine Ext.trans ?_ (Ext.new _ _) | refine Ext.put ?_ ?_ _ | refine Ext.trans ?_ (by assumption))) <;> (first | omega | (simp only [AH.zN, AH.zP] <;> omega))))⟩
 by_cases h3 : (2000 : Int) < x.2.1.size
 ·simp (disch := first | omega | fail) only [amR Tryd.prog ro X, amS, seval, reduceCtorEq, ty3, ty5, ty9, ty97, ty188, ty189, h1, h2, h3]
  exact ⟨by rw [decide_eq_false]; rw [hi]; omega, (by ((repeat' (first | exact Ext.refl _ | assumption | refine Ext.trans ?_ (Ext.new _ _) | refine Ext.put ?_ ?_ _ | refine Ext.trans ?_ (by assumption))) <;> (first | omega | (simp only [AH.zN, AH.zP] <;> omega))))⟩
 obtain ⟨r0, r1, r2, r3, _⟩ := g8 x.1 (by omega) (by omega)
 by_cases h4 : 0 ≤ x.2.2
 ·rcases kd_cases x.1 with ⟨k1, k2, k3⟩ | ⟨k1, k2, k3⟩ | ⟨k1, k2, k3⟩ | ⟨k1, k2, k3⟩ <;> rw [k1] at r1 <;> rw [k1, k2] at hi
  ·by_cases h5 : x.2.2 ≤ 0
   ·simp (disch := first | omega | fail) only [amR Tryd.prog ro X, amS, seval, reduceCtorEq, ty3, ty5, ty9, ty97, ty188, ty189, h1, h2, h3, g1, g3, g4, g6, r1, h4, h5]
    exact ⟨by rw [decide_eq_true]; rw [hi]; refine ⟨by omega, by omega, by omega, h4, h5, .inl rfl⟩, (by ((repeat' (first | exact Ext.refl _ | assumption | refine Ext.trans ?_ (Ext.new _ _) | refine Ext.put ?_ ?_ _ | refine Ext.trans ?_ (by assumption))) <;> (first | omega | (simp only [AH.zN, AH.zP] <;> omega))))⟩
   ·simp (disch := first | omega | fail) only [amR Tryd.prog ro X, amS, seval, reduceCtorEq, ty3, ty5, ty9, ty97, ty188, ty189, h1, h2, h3, g1, g3, g4, g6, r1, h4, h5]
    exact ⟨by rw [decide_eq_false]; rw [hi]; omega, (by ((repeat' (first | exact Ext.refl _ | assumption | refine Ext.trans ?_ (Ext.new _ _) | refine Ext.put ?_ ?_ _ | refine Ext.trans ?_ (by assumption))) <;> (first | omega | (simp only [AH.zN, AH.zP] <;> omega))))⟩
  ·by_cases h5 : x.2.2 ≤ 2000
   ·simp (disch := first | omega | fail) only [amR Tryd.prog ro X, amS, seval, reduceCtorEq, ty3, ty5, ty9, ty97, ty188, ty189, h1, h2, h3, g1, g3, g4, g6, r1, h4, h5]
    refine ⟨?_, (by ((repeat' (first | exact Ext.refl _ | assumption | refine Ext.trans ?_ (Ext.new _ _) | refine Ext.put ?_ ?_ _ | refine Ext.trans ?_ (by assumption))) <;> (first | omega | (simp only [AH.zN, AH.zP] <;> omega))))⟩
    congr 3
    rw [hi]
    exact propext ⟨fun h => ⟨by omega, by omega, by omega, h4, h5, .inr h⟩, fun h => by rcases h.2.2.2.2.2 with h | h; exact absurd h (by decide); exact h⟩
   ·simp (disch := first | omega | fail) only [amR Tryd.prog ro X, amS, seval, reduceCtorEq, ty3, ty5, ty9, ty97, ty188, ty189, h1, h2, h3, g1, g3, g4, g6, r1, h4, h5]
    exact ⟨by rw [decide_eq_false]; rw [hi]; omega, (by ((repeat' (first | exact Ext.refl _ | assumption | refine Ext.trans ?_ (Ext.new _ _) | refine Ext.put ?_ ?_ _ | refine Ext.trans ?_ (by assumption))) <;> (first | omega | (simp only [AH.zN, AH.zP] <;> omega))))⟩
  ·by_cases h5 : x.2.2 ≤ 200
   ·simp (disch := first | omega | fail) only [amR Tryd.prog ro X, amS, seval, reduceCtorEq, ty3, ty5, ty9, ty97, ty188, ty189, h1, h2, h3, g1, g3, g4, g6, r1, h4, h5]
    refine ⟨?_, (by ((repeat' (first | exact Ext.refl _ | assumption | refine Ext.trans ?_ (Ext.new _ _) | refine Ext.put ?_ ?_ _ | refine Ext.trans ?_ (by assumption))) <;> (first | omega | (simp only [AH.zN, AH.zP] <;> omega))))⟩
    congr 3
    rw [hi]
    exact propext ⟨fun h => ⟨by omega, by omega, by omega, h4, h5, .inr h⟩, fun h => by rcases h.2.2.2.2.2 with h | h; exact absurd h (by decide); exact h⟩
   ·simp (disch := first | omega | fail) only [amR Tryd.prog ro X, amS, seval, reduceCtorEq, ty3, ty5, ty9, ty97, ty188, ty189, h1, h2, h3, g1, g3, g4, g6, r1, h4, h5]
    exact ⟨by rw [decide_eq_false]; rw [hi]; omega, (by ((repeat' (first | exact Ext.refl _ | assumption | refine Ext.trans ?_ (Ext.new _ _) | refine Ext.put ?_ ?_ _ | refine Ext.trans ?_ (by assumption))) <;> (first | omega | (simp only [AH.zN, AH.zP] <;> omega))))⟩
  ·by_cases h5 : x.2.2 ≤ 0
   ·simp (disch := first | omega | fail) only [amR Tryd.prog ro X, amS, seval, reduceCtorEq, ty3, ty5, ty9, ty97, ty188, ty189, h1, h2, h3, g1, g3, g4, g6, r1, h4, h5]
    refine ⟨?_, (by ((repeat' (first | exact Ext.refl _ | assumption | refine Ext.trans ?_ (Ext.new _ _) | refine Ext.put ?_ ?_ _ | refine Ext.trans ?_ (by assumption))) <;> (first | omega | (simp only [AH.zN, AH.zP] <;> omega))))⟩
    congr 3
    rw [hi]
    exact propext ⟨fun h => ⟨by omega, by omega, by omega, h4, h5, .inr h⟩, fun h => by rcases h.2.2.2.2.2 with h | h; exact absurd h (by decide); exact h⟩
   ·simp (disch := first | omega | fail) only [amR Tryd.prog ro X, amS, seval, reduceCtorEq, ty3, ty5, ty9, ty97, ty188, ty189, h1, h2, h3, g1, g3, g4, g6, r1, h4, h5]
    exact ⟨by rw [decide_eq_false]; rw [hi]; omega, (by ((repeat' (first | exact Ext.refl _ | assumption | refine Ext.trans ?_ (Ext.new _ _) | refine Ext.put ?_ ?_ _ | refine Ext.trans ?_ (by assumption))) <;> (first | omega | (simp only [AH.zN, AH.zP] <;> omega))))⟩
 ·rcases kd_cases x.1 with ⟨k1, k2, k3⟩ | ⟨k1, k2, k3⟩ | ⟨k1, k2, k3⟩ | ⟨k1, k2, k3⟩ <;> rw [k1] at r1 <;> simp (disch := first | omega | fail) only [amR Tryd.prog ro X, amS, seval, reduceCtorEq, ty3, ty5, ty9, ty97, ty188, ty189, h1, h2, h3, g1, g3, g4, g6, r1, h4] <;>
   exact ⟨by rw [decide_eq_false]; rw [hi]; omega, (by ((repeat' (first | exact Ext.refl _ | assumption | refine Ext.trans ?_ (Ext.new _ _) | refine Ext.put ?_ ?_ _ | refine Ext.trans ?_ (by assumption))) <;> (first | omega | (simp only [AH.zN, AH.zP] <;> omega))))⟩
end Go.Proofs.YtjlbcofopapajaaDoor.Amu.Prog
