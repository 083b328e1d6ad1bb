import Derived.Test.YtjlbcofopapajaaDoorAmuTy
import Derived.Test.YtjlbcofopapajaaDoorAmTX
import Derived.Test.YtjlbcofopapajaaDoorProg
namespace Go.Proofs.YtjlbcofopapajaaDoor.Amu.Sum
open Go Go.AM Go.Proofs
set_option linter.all false
open Ty
variable {ro : Nat} {X : FuncId → List Value → AH → ARes → AH → Prop}
set_option maxRecDepth 10000
theorem impl.isWidth_a (A : AH) (w : Int) : ACalls Tryd.prog ro X 128 [.int .i64 w] A (fun r A' => r = .ret (.bool (decide (isW w))) ∧ A' = A) := by
 refine ACalls.enterQ (rs := [.tmp 2]) Tryd.func128 rfl (by kernel_rfl) rfl ?_
 by_cases h1 : 1 ≤ w
 ·simp (disch := first | omega | fail) only [amR Tryd.prog ro X, amS, seval, reduceCtorEq, ty3, h1]
  congr 3
  exact propext ⟨fun h => ⟨h1, h⟩, fun h => h.2⟩
 ·simp (disch := first | omega | fail) only [amR Tryd.prog ro X, amS, seval, reduceCtorEq, ty3, h1]
  rw [decide_eq_false]
  exact fun h => h1 h.1
theorem spec.l1Width_a (A : AH) (w : Int) : ACalls Tryd.prog ro X 123 [.int .i64 w] A (fun r A' => r = .ret (.bool (decide (isW w))) ∧ A' = A) := by
 refine ACalls.enterQ (rs := [.tmp 2]) Tryd.func123 rfl (by kernel_rfl) rfl ?_
 by_cases h1 : 1 ≤ w
 ·simp (disch := first | omega | fail) only [amR Tryd.prog ro X, amS, seval, reduceCtorEq, ty3, h1]
  congr 3
  exact propext ⟨fun h => ⟨h1, h⟩, fun h => h.2⟩
 ·simp (disch := first | omega | fail) only [amR Tryd.prog ro X, amS, seval, reduceCtorEq, ty3, h1]
  rw [decide_eq_false]
  exact fun h => h1 h.1
theorem impl_a (A : AH) (hro : ro ≤ A.size) (t : ByteArray) (w : Int) (ht : t.size < 4611686018427387904) : ACalls Tryd.prog ro X 129 [.string t, .int .i64 w] A (fun r A' => r = .ret (.string (sumS t w)) ∧ Ext A A') := by
 refine ACalls.enterQ (rs := [.tmp 4]) Tryd.func129 rfl (by kernel_rfl) rfl ?_
 simp (disch := first | omega | fail) only [amR Tryd.prog ro X, amS, seval, reduceCtorEq, ty3, ty4, ty5, ty9, ty69, ty254]
 refine (impl.isWidth_a A w).mono ?_
 rintro r A1 ⟨rfl, rfl⟩
 by_cases hw : isW w
 ·have hw2 := hw
  unfold isW at hw2
  simp (disch := first | omega | fail) only [amR Tryd.prog ro X, amS, seval, reduceCtorEq, ty3, ty4, ty5, ty9, ty69, ty254, hw]
  refine Wp.loopC (fun n e A' => A' = A1 ∧ e 0 = .string t ∧ e 1 = .int .i64 w ∧ ∃ i : Nat, i ≤ t.size ∧ n = t.size - i ∧ e 6 = .int .i64 i ∧ e 5 = .int .u64 (fnv ((ls t).take i))) (t.size - 0) ?_ ?_
  ·simp (disch := first | omega | fail) only [amV, amH, amQ, amL, amN Tryd.prog, amS, seval, reduceCtorEq, ty3, ty4, ty5, ty9, ty69, ty254]
   exact ⟨0, by omega, rfl, rfl, rfl⟩
  ·rintro n e A' ⟨rfl, h0, h1, i, hi, rfl, h6, h5⟩
   simp (disch := first | omega | fail) only [amR Tryd.prog ro X, amS, seval, reduceCtorEq, ty3, ty4, ty5, ty9, ty69, ty254, h0, h6]
   refine CondB.split (fun h => ?_) (fun h => ?_)
   ·have hil : i < t.size := by simpa using h
    have hb := (bget t i).toNat_lt
    simp (disch := first | omega | fail) only [amR Tryd.prog ro X, amS, seval, reduceCtorEq, ty3, ty4, ty5, ty9, ty69, ty254, h0, h5, h6]
    exact ⟨t.size - (i + 1), by omega, h1, i + 1, by omega, rfl, by simp, by rw [fnv_take t i hil]; rfl⟩
   ·have hil : i = t.size := by simp at h; omega
    subst hil
    have hfull : (ls t).take t.size = ls t := by rw [← ls_length t, List.take_length]
    rw [hfull] at h5
    have hr := fnv_range (ls t)
    obtain ⟨H, hH⟩ : ∃ H : Nat, fnv (ls t) = H := ⟨(fnv (ls t)).toNat, by omega⟩
    obtain ⟨k, rfl⟩ : ∃ k : Nat, w = k := ⟨w.toNat, by omega⟩
    simp (disch := first | omega | fail) only [amR Tryd.prog ro X, amS, seval, reduceCtorEq, ty3, ty4, ty5, ty9, ty69, ty254, h0, h1, h5, h6]
    refine Wp.loopC (fun n e A2 => Ext A' A2 ∧ A'.size < A2.size ∧ e 7 = (Sl.mk false A'.size 0 k k).v ∧ n ≤ k ∧ e 8 = .int .i64 ((n : Int) - 1) ∧ e 5 = .int .u64 ((H / 256 ^ (k - n) : Nat) : Int) ∧ ∃ c, A2.get A'.size = .cells c 1 ∧ c.length = k ∧ c.drop n = (lowB H (k - n)).map bv) k ?_ ?_
    ·simp (disch := first | omega | fail) only [amV, amH, amQ, amL, amN Tryd.prog, amS, seval, reduceCtorEq, ty3, ty4, ty5, ty9, ty69, ty254]
     refine ⟨Ext.new _ _, by omega, ?_, ?_⟩
     ·rw [h5, hH]; simp
     ·refine ⟨_, rfl, by simp, ?_⟩
      simp [lowB]
    ·rintro n e A2 ⟨hE, hz, h7, hn, h8, h5, c, g1, g2, g3⟩
     simp (disch := first | omega | fail) only [amR Tryd.prog ro X, amS, seval, reduceCtorEq, ty3, ty4, ty5, ty9, ty69, ty254, h8]
     refine CondB.split (fun h => ?_) (fun h => ?_)
     ·have hn1 : 1 ≤ n := by simp at h; omega
      have hi1 : ((n : Int) - 1).toNat = n - 1 := by omega
      simp (disch := first | omega | fail) only [amR Tryd.prog ro X, amS, seval, reduceCtorEq, ty3, ty4, ty5, ty9, ty69, ty254, h5, h7, h8, g1, hi1, wrap_u8]
      refine ⟨n - 1, by omega, (by ((repeat' (first | exact Ext.refl _ | assumption | refine Ext.trans ?_ (Ext.new _ _) | refine Ext.put ?_ ?_ _ | refine Ext.trans ?_ (by assumption))) <;> (first | omega | (simp only [AH.zN, AH.zP] <;> omega)))), hz, by omega, by congr 1; omega, ?_, _, rfl, by simp [g2], ?_⟩
      ·congr 1
       show ((H / 256 ^ (k - n) : Nat) : Int).fdiv (2 ^ 8) = _
       rw [Int.fdiv_eq_ediv_of_nonneg _ (by decide)]
       have e1 : k - (n - 1) = k - n + 1 := by omega
       rw [e1, Nat.pow_succ, ← Nat.div_div_eq_div_mul]
       omega
      ·have e1 : k - (n - 1) = k - n + 1 := by omega
       rw [e1, lowB_front, List.map_cons, ← g3]
       have e2 : n - 1 + 1 = n := by omega
       rw [List.drop_eq_getElem_cons (by simp [g2]; omega)]
       congr 1
       ·simp [bv]
       ·rw [e2, List.drop_set_of_lt (by omega)]
     ·have hn0 : n = 0 := by simp at h; omega
      subst hn0
      rw [List.drop_zero, Nat.sub_zero] at g3
      subst g3
      have hst := strOf_bv (lowB H k)
      have hk0 : ¬ k = 0 := by omega
      have hk1 : List.take k ((lowB H k).map bv) = (lowB H k).map bv := by rw [List.take_of_length_le (by omega)]
      simp (disch := first | omega | fail) only [amR Tryd.prog ro X, amS, seval, reduceCtorEq, ty3, ty4, ty5, ty9, ty69, ty254, h7, g1, hst, hk0, hk1, false_or]
      refine ⟨?_, hE⟩
      rw [sumS, if_pos hw, hH]
      rfl
 ·simp (disch := first | omega | fail) only [amR Tryd.prog ro X, amS, seval, reduceCtorEq, ty3, ty4, ty5, ty9, ty69, ty254, hw]
  exact ⟨by rw [sumS, if_neg hw], Ext.refl _⟩
theorem spec_a (A : AH) (hro : ro ≤ A.size) (t : ByteArray) (w : Int) (ht : t.size < 4611686018427387904) : ACalls Tryd.prog ro X 124 [.string t, .int .i64 w] A (fun r A' => r = .ret (.string (sumS t w)) ∧ Ext A A') := by
 refine ACalls.enterQ (rs := [.tmp 4]) Tryd.func124 rfl (by kernel_rfl) rfl ?_
 simp (disch := first | omega | fail) only [amR Tryd.prog ro X, amS, seval, reduceCtorEq, ty3, ty4, ty5, ty9, ty69, ty254]
 refine (spec.l1Width_a A w).mono ?_
 rintro r A1 ⟨rfl, rfl⟩
 by_cases hw : isW w
 ·have hw2 := hw
  unfold isW at hw2
  simp (disch := first | omega | fail) only [amR Tryd.prog ro X, amS, seval, reduceCtorEq, ty3, ty4, ty5, ty9, ty69, ty254, hw]
  refine Wp.loopC (fun n e A' => A' = A1 ∧ e 0 = .string t ∧ e 1 = .int .i64 w ∧ ∃ i : Nat, i ≤ t.size ∧ n = t.size - i ∧ e 6 = .int .i64 i ∧ e 5 = .int .u64 (fnv ((ls t).take i))) (t.size - 0) ?_ ?_
  ·simp (disch := first | omega | fail) only [amV, amH, amQ, amL, amN Tryd.prog, amS, seval, reduceCtorEq, ty3, ty4, ty5, ty9, ty69, ty254]
   exact ⟨0, by omega, rfl, rfl, rfl⟩
  ·rintro n e A' ⟨rfl, h0, h1, i, hi, rfl, h6, h5⟩
   simp (disch := first | omega | fail) only [amR Tryd.prog ro X, amS, seval, reduceCtorEq, ty3, ty4, ty5, ty9, ty69, ty254, h0, h6]
   refine CondB.split (fun h => ?_) (fun h => ?_)
   ·have hil : i < t.size := by simpa using h
    have hb := (bget t i).toNat_lt
    simp (disch := first | omega | fail) only [amR Tryd.prog ro X, amS, seval, reduceCtorEq, ty3, ty4, ty5, ty9, ty69, ty254, h0, h5, h6]
    exact ⟨t.size - (i + 1), by omega, h1, i + 1, by omega, rfl, by simp, by rw [fnv_take t i hil]; rfl⟩
   ·have hil : i = t.size := by simp at h; omega
    subst hil
    have hfull : (ls t).take t.size = ls t := by rw [← ls_length t, List.take_length]
    rw [hfull] at h5
    have hr := fnv_range (ls t)
    obtain ⟨H, hH⟩ : ∃ H : Nat, fnv (ls t) = H := ⟨(fnv (ls t)).toNat, by omega⟩
    obtain ⟨k, rfl⟩ : ∃ k : Nat, w = k := ⟨w.toNat, by omega⟩
    simp (disch := first | omega | fail) only [amR Tryd.prog ro X, amS, seval, reduceCtorEq, ty3, ty4, ty5, ty9, ty69, ty254, h0, h1, h5, h6]
    refine Wp.loopC (fun n e A2 => Ext A' A2 ∧ e 1 = .int .i64 k ∧ n ≤ k ∧ e 8 = .int .i64 ((k - n : Nat) : Int) ∧ e 5 = .int .u64 ((H / 256 ^ (k - n) : Nat) : Int) ∧ ∃ s, e 7 = s.v ∧ Acc A'.size A2 s (lowB H (k - n)) []) k ?_ ?_
    ·simp (disch := first | omega | fail) only [amV, amH, amQ, amL, amN Tryd.prog, amS, seval, reduceCtorEq, ty3, ty4, ty5, ty9, ty69, ty254]
     refine ⟨Ext.new _ _, h1, by simp, by rw [h5, hH]; simp, _, rfl, ?_⟩
     rw [Nat.sub_self]
     exact Acc.empty _ _
    ·rintro n e A2 ⟨hE, h1, hn, h8, h5, s, h7, hs⟩
     have hz := hE.size
     generalize hq : H / 256 ^ (k - n) = q at h5
     have hq2 : q ≤ H := by rw [← hq]; exact Nat.div_le_self _ _
     simp (disch := first | omega | fail) only [amR Tryd.prog ro X, amS, seval, reduceCtorEq, ty3, ty4, ty5, ty9, ty69, ty254, h1, h8]
     refine CondB.split (fun h => ?_) (fun h => ?_)
     ·have hn1 : 1 ≤ n := by simp at h; omega
      simp (disch := first | omega | fail) only [amR Tryd.prog ro X, amS, seval, reduceCtorEq, ty3, ty4, ty5, ty9, ty69, ty254, h5, h7, h8, wrap_u8]
      have hrow : Acc (α := UInt8) A'.size (A2.new (.cells [bv (UInt8.ofNat (q % 256))] 1)) ⟨false, A2.size, 0, 1, 1⟩ [UInt8.ofNat (q % 256)] [] :=
       .own hz (Nat.lt_succ_self _) (by simp) rfl (.inr ⟨rfl, by unfold BIG; omega⟩) (AH.gNs _ _) (Reps.ofU8 _ [_])
      obtain ⟨vs, hsrc, hr⟩ := (hs.ext (Ext.new A2 (.cells [bv (UInt8.ofNat (q % 256))] 1))).src
      obtain ⟨s', A3, hap, hs', hg, _⟩ := hrow.app (P := Tryd.prog) (ro := ro) (t := 69) (by omega) (by simp only [ty69]; rfl) hsrc rfl hr (.inr (by have := hr.u8.2; simp)) (by rw [lowB_length]; simp; omega) (by simp [AH.zN]; omega)
      have e0 : ((q : Nat) : Int) % 256 % 256 = ((UInt8.ofNat (q % 256)).toNat : Int) := by simp
      have e0' : ((q : Nat) : Int) % 256 = ((UInt8.ofNat (q % 256)).toNat : Int) := by simp
      simp only [bv] at hap hg
      try rw [e0]
      try rw [e0']
      simp (disch := first | omega | fail) only [amR Tryd.prog ro X, amS, seval, reduceCtorEq, ty3, ty4, ty5, ty9, ty69, ty254, hap, h1, h5, h8]
      refine ⟨n - 1, by omega, ?_, by omega, by congr 1; omega, ?_, s', rfl, ?_⟩
      ·exact hg.ext (hE.trans (Ext.new _ _)) (Nat.le_refl _)
      ·congr 1
       have e1 : k - (n - 1) = k - n + 1 := by omega
       rw [e1, Nat.pow_succ, ← Nat.div_div_eq_div_mul, hq]
       omega
      ·have e1 : k - (n - 1) = k - n + 1 := by omega
       rw [e1, lowB_front, hq]
       simpa using hs'
     ·have hn0 : n = 0 := by simp at h; omega
      subst hn0
      rw [Nat.sub_zero] at hs
      obtain ⟨F, hF, _⟩ := hs.slr
      simp (disch := first | omega | fail) only [amR Tryd.prog ro X, amS, seval, reduceCtorEq, ty3, ty4, ty5, ty9, ty69, ty254, h7, hF.toStr]
      refine ⟨?_, hE⟩
      rw [sumS, if_pos hw, hH]
      rfl
 ·simp (disch := first | omega | fail) only [amR Tryd.prog ro X, amS, seval, reduceCtorEq, ty3, ty4, ty5, ty9, ty69, ty254, hw]
  exact ⟨by rw [sumS, if_neg hw], Ext.refl _⟩
end Go.Proofs.YtjlbcofopapajaaDoor.Amu.Sum
