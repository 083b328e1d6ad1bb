import Derived.Test.YtmelgjblkmbhjaaGreatDoorAmuTy
import Derived.Test.YtmelgjblkmbhjaaGreatDoorAmTX
import Derived.Test.YtmelgjblkmbhjaaGreatDoorAmuLawA
import Derived.Test.YtmelgjblkmbhjaaGreatDoorProg
namespace Go.Proofs.YtmelgjblkmbhjaaGreatDoor.Amu.Form
open Go Go.AM Go.Proofs
set_option linter.all false
open Ty
variable {ro : Nat} {X : FuncId → List Value → AH → ARes → AH → Prop}
set_option maxRecDepth 10000
theorem l2Dec_a (n : Nat) : ∀ (A : AH) (hro : ro ≤ A.size) (hn : n < 1152921504606846976),
 ACalls Tryz.prog ro X 126 [.int .i64 n] A (fun r A' => r = .ret (.string (decS n)) ∧ Ext A A') := by
 induction n using Nat.strongRecOn with
 | _ n ih =>
   intro A hro hn
   refine ACalls.enterQ (rs := [.tmp 2]) Tryz.func126 rfl (by kernel_rfl) rfl ?_
   simp (disch := first | omega | fail) only [amR Tryz.prog ro X, amS, seval, reduceCtorEq, ty3, ty5, ty9, ty161]
   refine CondB.split (fun h => ?_) (fun h => ?_)
   ·have h10 : n < 10 := by simp at h; omega
    simp (disch := first | omega | fail) only [amR Tryz.prog ro X, amS, seval, reduceCtorEq, ty3, ty5, ty9, ty161]
    refine ⟨?_, Ext.new _ _⟩
    rw [decS_lt h10]
    rfl
   ·have h10 : ¬ n < 10 := by simp at h; omega
    refine Wp.runG [2] (by kernel_rfl) (.inr (by intro v e A h; simp only [amK, amQ, thenQ, blockQ, endQ, reduceCtorEq, false_and, exists_false] at h)) ?_
    simp (disch := first | omega | fail) only [amR Tryz.prog ro X, amS, seval, reduceCtorEq, ty3, ty5, ty9, ty161]
    have e : ((n : Int) / 10) = ((n / 10 : Nat) : Int) := by omega
    rw [e]
    refine (ih (n / 10) (by omega) A hro (by omega)).mono ?_
    rintro r A2 ⟨rfl, hE⟩
    have hz := decS_size (n / 10)
    refine ⟨trivial, fun b hb => hE.get b hb, ?_⟩
    simp (disch := first | omega | fail) only [amR Tryz.prog ro X, amS, seval, reduceCtorEq, ty3, ty5, ty9, ty161]
    refine ⟨?_, (by ((repeat' (first | exact Ext.refl _ | assumption | refine Ext.trans ?_ (Ext.new _ _) | refine Ext.put ?_ ?_ _ | refine Ext.trans ?_ (by assumption))) <;> (first | omega | (simp only [AH.zN, AH.zP] <;> omega))))⟩
    rw [decS_ge h10]
    rfl
theorem specForm_a (A : AH) (hro : ro ≤ A.size) (c : Int) (t : ByteArray) (s : Sl) (l : List ByteArray) (F : List Nat) (hs : SlR A s l F) (ht : t.size < 4611686018427387904) :
 ACalls Tryz.prog ro X 67 [.agg #[.int .i64 c, .string t, s.v]] A (fun r A' => r = .ret (.string (formR c t l)) ∧ Ext A A') := by
 refine ACalls.enterQ (rs := [.tmp 2]) Tryz.func67 rfl (by kernel_rfl) rfl ?_
 have hlen := hs.len
 by_cases h1 : c < 0
 ·simp (disch := first | omega | fail) only [amR Tryz.prog ro X, amS, seval, reduceCtorEq, ty3, ty9, ty22, ty79, h1]
  exact ⟨by rw [formR_bad (.inl h1)], (by ((repeat' (first | exact Ext.refl _ | assumption | refine Ext.trans ?_ (Ext.new _ _) | refine Ext.put ?_ ?_ _ | refine Ext.trans ?_ (by assumption))) <;> (first | omega | (simp only [AH.zN, AH.zP] <;> omega))))⟩
 by_cases h2 : 5 < c
 ·simp (disch := first | omega | fail) only [amR Tryz.prog ro X, amS, seval, reduceCtorEq, ty3, ty9, ty22, ty79, h1, h2]
  exact ⟨by rw [formR_bad (.inr (.inl h2))], (by ((repeat' (first | exact Ext.refl _ | assumption | refine Ext.trans ?_ (Ext.new _ _) | refine Ext.put ?_ ?_ _ | refine Ext.trans ?_ (by assumption))) <;> (first | omega | (simp only [AH.zN, AH.zP] <;> omega))))⟩
 by_cases h3 : (2000 : Int) < t.size
 ·simp (disch := first | omega | fail) only [amR Tryz.prog ro X, amS, seval, reduceCtorEq, ty3, ty9, ty22, ty79, h1, h2, h3]
  exact ⟨by rw [formR_bad (.inr (.inr (.inl (by omega))))], (by ((repeat' (first | exact Ext.refl _ | assumption | refine Ext.trans ?_ (Ext.new _ _) | refine Ext.put ?_ ?_ _ | refine Ext.trans ?_ (by assumption))) <;> (first | omega | (simp only [AH.zN, AH.zP] <;> omega))))⟩
 by_cases h4 : (0 : Int) < l.length
 ·simp (disch := first | omega | fail) only [amR Tryz.prog ro X, amS, seval, reduceCtorEq, ty3, ty9, ty22, ty79, h1, h2, h3, h4, hlen]
  exact ⟨by rw [formR_bad (.inr (.inr (.inr (fun e => by rw [e] at h4; simp at h4))))], (by ((repeat' (first | exact Ext.refl _ | assumption | refine Ext.trans ?_ (Ext.new _ _) | refine Ext.put ?_ ?_ _ | refine Ext.trans ?_ (by assumption))) <;> (first | omega | (simp only [AH.zN, AH.zP] <;> omega))))⟩
 have hb : ¬ formBad c t l := by
  rintro (h | h | h | h)
  ·exact h1 h
  ·exact h2 h
  ·omega
  ·exact h (List.eq_nil_of_length_eq_zero (by omega))
 simp (disch := first | omega | fail) only [amR Tryz.prog ro X, amS, seval, reduceCtorEq, ty3, ty9, ty22, ty79, h1, h2, h3, h4, hlen]
 refine Wp.runG [2] (by kernel_rfl) (.inr (by intro v e A h; simp only [amK, amQ, thenQ, blockQ, endQ, reduceCtorEq, false_and, exists_false] at h)) ?_
 simp (disch := first | omega | fail) only [amR Tryz.prog ro X, amS, seval, reduceCtorEq, ty3, ty9, ty22, ty79]
 obtain ⟨n, rfl⟩ : ∃ n : Nat, c = n := ⟨c.toNat, by omega⟩
 refine (l2Dec_a n _ ((by first | omega | (simp only [AH.zN, AH.zP] <;> omega))) (by omega)).mono ?_
 rintro r A2 ⟨rfl, hE⟩
 have hn : n < 10 := by omega
 rw [decS_lt hn]
 refine ⟨trivial, fun b hb => hE.get b hb, ?_⟩
 have z1 : (ByteArray.mk #[UInt8.ofNat (48 + n)]).size = 1 := rfl
 have z2 : (ByteArray.mk #[58]).size = 1 := rfl
 have z3 : (ByteArray.mk #[UInt8.ofNat (48 + n)] ++ ByteArray.mk #[58]).size = 2 := rfl
 simp (maxSteps := 2000000) (disch := first | omega | (simp only [AH.zN, AH.zP] <;> omega) | fail) only [amR Tryz.prog ro X, amS, seval, reduceCtorEq, ty3, ty9, ty22, ty79, hE.get, z1, z2, z3]
 refine ⟨?_, (by ((repeat' (first | exact Ext.refl _ | assumption | refine Ext.trans ?_ (Ext.new _ _) | refine Ext.put ?_ ?_ _ | refine Ext.trans ?_ (by assumption))) <;> (first | omega | (simp only [AH.zN, AH.zP] <;> omega))))⟩
 rw [formR_ok hb]
 rfl
theorem implForm_a (A : AH) (hro : ro ≤ A.size) (c : Int) (t : ByteArray) (s : Sl) (l : List ByteArray) (F : List Nat) (hs : SlR A s l F) (ht : t.size < 4611686018427387904) :
 ACalls Tryz.prog ro X 48 [.agg #[.int .i64 c, .string t, s.v]] A (fun r A' => r = .ret (.string (formR c t l)) ∧ Ext A A') := by
 refine ACalls.enterQ (rs := [.tmp 2]) Tryz.func48 rfl (by kernel_rfl) rfl ?_
 have hlen := hs.len
 by_cases h1 : c < 0
 ·simp (disch := first | omega | fail) only [amR Tryz.prog ro X, amS, seval, reduceCtorEq, ty3, ty5, ty9, ty22, ty79, ty161, h1]
  exact ⟨by rw [formR_bad (.inl h1)], (by ((repeat' (first | exact Ext.refl _ | assumption | refine Ext.trans ?_ (Ext.new _ _) | refine Ext.put ?_ ?_ _ | refine Ext.trans ?_ (by assumption))) <;> (first | omega | (simp only [AH.zN, AH.zP] <;> omega))))⟩
 by_cases h2 : 5 < c
 ·simp (disch := first | omega | fail) only [amR Tryz.prog ro X, amS, seval, reduceCtorEq, ty3, ty5, ty9, ty22, ty79, ty161, h1, h2]
  exact ⟨by rw [formR_bad (.inr (.inl h2))], (by ((repeat' (first | exact Ext.refl _ | assumption | refine Ext.trans ?_ (Ext.new _ _) | refine Ext.put ?_ ?_ _ | refine Ext.trans ?_ (by assumption))) <;> (first | omega | (simp only [AH.zN, AH.zP] <;> omega))))⟩
 by_cases h3 : (2000 : Int) < t.size
 ·simp (disch := first | omega | fail) only [amR Tryz.prog ro X, amS, seval, reduceCtorEq, ty3, ty5, ty9, ty22, ty79, ty161, h1, h2, h3]
  exact ⟨by rw [formR_bad (.inr (.inr (.inl (by omega))))], (by ((repeat' (first | exact Ext.refl _ | assumption | refine Ext.trans ?_ (Ext.new _ _) | refine Ext.put ?_ ?_ _ | refine Ext.trans ?_ (by assumption))) <;> (first | omega | (simp only [AH.zN, AH.zP] <;> omega))))⟩
 by_cases h4 : (0 : Int) < l.length
 ·simp (disch := first | omega | fail) only [amR Tryz.prog ro X, amS, seval, reduceCtorEq, ty3, ty5, ty9, ty22, ty79, ty161, h1, h2, h3, h4, hlen]
  exact ⟨by rw [formR_bad (.inr (.inr (.inr (fun e => by rw [e] at h4; simp at h4))))], (by ((repeat' (first | exact Ext.refl _ | assumption | refine Ext.trans ?_ (Ext.new _ _) | refine Ext.put ?_ ?_ _ | refine Ext.trans ?_ (by assumption))) <;> (first | omega | (simp only [AH.zN, AH.zP] <;> omega))))⟩
 have hb : ¬ formBad c t l := by
  rintro (h | h | h | h)
  ·exact h1 h
  ·exact h2 h
  ·omega
  ·exact h (List.eq_nil_of_length_eq_zero (by omega))
 obtain ⟨n, rfl⟩ : ∃ n : Nat, c = n := ⟨c.toNat, by omega⟩
 simp (maxSteps := 2000000) (disch := first | omega | (simp only [AH.zN, AH.zP] <;> omega) | fail) only [amR Tryz.prog ro X, amS, seval, reduceCtorEq, ty3, ty5, ty9, ty22, ty79, ty161, h1, h2, h3, h4, hlen]
 refine ⟨?_, (by ((repeat' (first | exact Ext.refl _ | assumption | refine Ext.trans ?_ (Ext.new _ _) | refine Ext.put ?_ ?_ _ | refine Ext.trans ?_ (by assumption))) <;> (first | omega | (simp only [AH.zN, AH.zP] <;> omega))))⟩
 rw [formR_ok hb]
 rfl
end Go.Proofs.YtmelgjblkmbhjaaGreatDoor.Amu.Form
