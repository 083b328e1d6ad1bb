import Derived.Test.YtaiagocjnnfkmaaAmuTy
import Derived.Test.YtaiagocjnnfkmaaAmRun
import Derived.Test.YtaiagocjnnfkmaaAmuClash
import Derived.Test.YtaiagocjnnfkmaaAmuDrawC
namespace Go.Proofs.Ytaiagocjnnfkmaa.Amu.LFnClash
open Go Go.AM Go.Proofs
set_option linter.unusedVariables false
set_option linter.unusedSimpArgs false
open Ty
variable {ro : Nat} {X : FuncId → List Value → AH → ARes → AH → Prop}
set_option maxRecDepth 10000
theorem clash_mem {w : Int} : ∀ {r pre : List ByteArray} {a b : ByteArray}, clashGo w pre r = some (a, b) → a ∈ pre ++ r ∧ b ∈ pre ++ r
 | [], _, _, _, h => by cases h
 | t :: r, pre, a, b, h => by
   unfold clashGo at h
   cases ho : AM.other w pre t with
   | some x =>
     rw [ho] at h
     cases h
     have := List.mem_of_find?_eq_some ho
     simp [this]
   | none =>
     rw [ho] at h
     have := clash_mem h
     simpa using this
theorem law_a (A : AH) (hro : ro ≤ A.size) (s0 : Sl) (x0 : List UInt8) (F0 : List Nat) (h0 : SlR A s0 x0 F0) (b0 : x0.length < 281474976710656 ∧ ∀ v ∈ x0, True) :
 ACalls Try.prog ro X 8 [s0.v] A (fun r _ => r = .ret (.bool true)) := by
 refine ACalls.enterQ (rs := [.tmp 2]) Try.func8 rfl (by kernel_rfl) rfl ?_
 have hlen := h0.len
 by_cases hbig : (1048576 : Int) < x0.length
 ·simp (maxSteps := 2000000) (disch := first | omega | (simp only [AH.zN, AH.zP] <;> omega) | fail) only [amR Try.prog ro X, amS, seval, reduceCtorEq, ty3, ty4, ty5, ty9, ty25, ty44, hlen, hbig]
 simp (maxSteps := 2000000) (disch := first | omega | (simp only [AH.zN, AH.zP] <;> omega) | fail) only [amR Try.prog ro X, amS, seval, reduceCtorEq, ty3, ty4, ty5, ty9, ty25, ty44, hlen, hbig]
 refine (DrawC.draw_a A hro s0 x0 F0 h0 b0.1).mono ?_
 rintro r A1 ⟨t, ts, G, w, rfl, ht, hts, hw0, hw1, hE1⟩
 have z1 := hE1.size
 simp (maxSteps := 2000000) (disch := first | omega | (simp only [AH.zN, AH.zP] <;> omega) | fail) only [amR Try.prog ro X, amS, seval, reduceCtorEq, ty3, ty4, ty5, ty9, ty25, ty44]
 refine (Clash.implClash_a A1 (by omega) t ts G ht w (by omega)).mono ?_
 rintro r A2 ⟨rfl, hE2⟩
 have z2 := hE2.size
 obtain ⟨ra, rb, rc, hr⟩ := clashV_ex (clashR ts w)
 rw [hr]
 simp (maxSteps := 2000000) (disch := first | omega | (simp only [AH.zN, AH.zP] <;> omega) | fail) only [amR Try.prog ro X, amS, seval, reduceCtorEq, ty3, ty4, ty5, ty9, ty25, ty44]
 refine (Clash.specClash_a A2 (by omega) t ts G (ht.ext hE2) w (by omega)).mono ?_
 rintro r A3 ⟨rfl, hE3⟩
 have z3 := hE3.size
 rw [hr]
 simp (maxSteps := 2000000) (disch := first | omega | (simp only [AH.zN, AH.zP] <;> omega) | fail) only [amR Try.prog ro X, amS, seval, reduceCtorEq, ty3, ty4, ty5, ty9, ty25, ty44]
 have ht3 := (ht.ext hE2).ext hE3
 have hsz : ∀ x ∈ ts, x.size < BIG := fun x hx => by
  obtain ⟨i, hi, rfl⟩ := List.getElem_of_mem hx
  exact (ht3.str hi).2.2.2.2.2
 cases hc : clashR ts w with
 | some y =>
   obtain ⟨a, b⟩ := y
   rw [hc] at hr
   cases hr
   have hcl : clashL ts w = some (a, b) := by unfold clashR at hc; split at hc; exact hc; cases hc
   obtain ⟨hne, hsum⟩ := clash_sound hcl
   obtain ⟨ha, hb⟩ := clash_mem hcl
   have sa := hsz a (by simpa using ha)
   have sb := hsz b (by simpa using hb)
   unfold BIG at sa sb
   simp (maxSteps := 2000000) (disch := first | omega | (simp only [AH.zN, AH.zP] <;> omega) | fail) only [amR Try.prog ro X, amS, seval, reduceCtorEq, ty3, ty4, ty5, ty9, ty25, ty44, hne]
   refine (Sum.impl_a A3 (by omega) a w (by omega)).mono ?_
   rintro r A4 ⟨rfl, hE4⟩
   have z4 := hE4.size
   simp (maxSteps := 2000000) (disch := first | omega | (simp only [AH.zN, AH.zP] <;> omega) | fail) only [amR Try.prog ro X, amS, seval, reduceCtorEq, ty3, ty4, ty5, ty9, ty25, ty44, hne]
   refine (Sum.impl_a A4 (by omega) b w (by omega)).mono ?_
   rintro r A5 ⟨rfl, hE5⟩
   simp (maxSteps := 2000000) (disch := first | omega | (simp only [AH.zN, AH.zP] <;> omega) | fail) only [amR Try.prog ro X, amS, seval, reduceCtorEq, ty3, ty4, ty5, ty9, ty25, ty44, hne, hsum]
 | none =>
   rw [hc] at hr
   cases hr
   have htl := ht3.len
   have hz3 : (sumS ⟨#[97]⟩ 3).size = 3 := sumS_size _ (by decide)
   by_cases g1 : (100 : Int) < ts.length
   ·simp (maxSteps := 2000000) (disch := first | omega | (simp only [AH.zN, AH.zP] <;> omega) | fail) only [amR Try.prog ro X, amS, seval, reduceCtorEq, ty3, ty4, ty5, ty9, ty25, ty44, g1, htl]
    refine (Sum.impl_a A3 (by omega) _ 3 (by decide)).mono ?_
    rintro r A4 ⟨rfl, hE4⟩
    simp (maxSteps := 2000000) (disch := first | omega | (simp only [AH.zN, AH.zP] <;> omega) | fail) only [amR Try.prog ro X, amS, seval, reduceCtorEq, ty3, ty4, ty5, ty9, ty25, ty44, hz3]
   by_cases g2 : w < 1
   ·simp (maxSteps := 2000000) (disch := first | omega | (simp only [AH.zN, AH.zP] <;> omega) | fail) only [amR Try.prog ro X, amS, seval, reduceCtorEq, ty3, ty4, ty5, ty9, ty25, ty44, g1, g2, htl]
    refine (Sum.impl_a A3 (by omega) _ 3 (by decide)).mono ?_
    rintro r A4 ⟨rfl, hE4⟩
    simp (maxSteps := 2000000) (disch := first | omega | (simp only [AH.zN, AH.zP] <;> omega) | fail) only [amR Try.prog ro X, amS, seval, reduceCtorEq, ty3, ty4, ty5, ty9, ty25, ty44, hz3]
   by_cases g3 : 8 < w
   ·simp (maxSteps := 2000000) (disch := first | omega | (simp only [AH.zN, AH.zP] <;> omega) | fail) only [amR Try.prog ro X, amS, seval, reduceCtorEq, ty3, ty4, ty5, ty9, ty25, ty44, g1, g2, g3, htl]
    refine (Sum.impl_a A3 (by omega) _ 3 (by decide)).mono ?_
    rintro r A4 ⟨rfl, hE4⟩
    simp (maxSteps := 2000000) (disch := first | omega | (simp only [AH.zN, AH.zP] <;> omega) | fail) only [amR Try.prog ro X, amS, seval, reduceCtorEq, ty3, ty4, ty5, ty9, ty25, ty44, hz3]
   have hisw : isW w := ⟨by omega, by omega⟩
   have hcl : clashL ts w = none := by unfold clashR at hc; rw [if_pos ⟨hisw, by omega⟩] at hc; exact hc
   have hno : NoClash w ts := by simpa using clash_none (pre := []) (by simp [NoClash]) hcl
   simp (maxSteps := 2000000) (disch := first | omega | (simp only [AH.zN, AH.zP] <;> omega) | fail) only [amR Try.prog ro X, amS, seval, reduceCtorEq, ty3, ty4, ty5, ty9, ty25, ty44, g1, g2, g3, htl]
   refine Wp.loopC (fun m e A' => e 3 = t.v ∧ e 4 = .int .i64 w ∧ Ext A3 A' ∧ ∃ i : Nat, i ≤ ts.length ∧ m = ts.length - i ∧ e 11 = .int .i64 i) (ts.length - 0) ?_ ?_
   ·simp (maxSteps := 2000000) (disch := first | omega | (simp only [AH.zN, AH.zP] <;> omega) | fail) only [amV, amH, amQ, amL, amN Try.prog, amS, seval, reduceCtorEq, ty3, ty4, ty5, ty9, ty25, ty44]
    exact ⟨Ext.refl _, 0, by omega, rfl, rfl⟩
   ·rintro m e A4 ⟨h3, h4, hE, i, hi, rfl, h11⟩
    have z4 := hE.size
    simp (maxSteps := 2000000) (disch := first | omega | (simp only [AH.zN, AH.zP] <;> omega) | fail) only [amR Try.prog ro X, amS, seval, reduceCtorEq, ty3, ty4, ty5, ty9, ty25, ty44, h3, h11, htl]
    refine CondB.split (fun h => ?_) (fun h => ?_)
    ·have hin : i < ts.length := by simp at h; omega
     simp (maxSteps := 2000000) (disch := first | omega | (simp only [AH.zN, AH.zP] <;> omega) | fail) only [amR Try.prog ro X, amS, seval, reduceCtorEq, ty3, ty4, ty5, ty9, ty25, ty44]
     refine Wp.loopC (fun m e A' => e 3 = t.v ∧ e 4 = .int .i64 w ∧ e 11 = .int .i64 i ∧ Ext A3 A' ∧ ∃ j : Nat, j ≤ i ∧ m = i - j ∧ e 12 = .int .i64 j) (i - 0) ?_ ?_
     ·simp (maxSteps := 2000000) (disch := first | omega | (simp only [AH.zN, AH.zP] <;> omega) | fail) only [amV, amH, amQ, amL, amN Try.prog, amS, seval, reduceCtorEq, ty3, ty4, ty5, ty9, ty25, ty44]
      exact ⟨h3, h4, h11, hE, 0, by omega, rfl, rfl⟩
     ·rintro m e A5 ⟨h3, h4, h11, hE5, j, hj, rfl, h12⟩
      have z5 := hE5.size
      simp (maxSteps := 2000000) (disch := first | omega | (simp only [AH.zN, AH.zP] <;> omega) | fail) only [amR Try.prog ro X, amS, seval, reduceCtorEq, ty3, ty4, ty5, ty9, ty25, ty44, h11, h12]
      refine CondB.split (fun h => ?_) (fun h => ?_)
      ·have hji : j < i := by simp at h; omega
       obtain ⟨n1, b1, m1, i1, c1, q1⟩ := (ht3.ext hE5).str hin
       obtain ⟨n2, b2, m2, i2, c2, q2⟩ := (ht3.ext hE5).str (i := j) (by omega)
       rw [aCell_eq] at c1 c2
       unfold BIG at q1 q2
       simp (maxSteps := 2000000) (disch := first | omega | (simp only [AH.zN, AH.zP] <;> omega) | fail) only [amR Try.prog ro X, amS, seval, reduceCtorEq, ty3, ty4, ty5, ty9, ty25, ty44]
       by_cases hq : ts[i] = ts[j]
       ·refine Wp.runG [15, 21] (by kernel_rfl) (.inr (by intro v e A h; simp only [amK, amQ, thenQ, blockQ, endQ, reduceCtorEq, false_and, exists_false] at h)) ?_
        simp (maxSteps := 2000000) (disch := first | omega | (simp only [AH.zN, AH.zP] <;> omega) | fail) only [amR Try.prog ro X, amS, seval, reduceCtorEq, ty3, ty4, ty5, ty9, ty25, ty44, h3, h4, h11, h12, n1, c1, c2, hq]
        exact ⟨i - (j + 1), by omega, hE5, j + 1, by omega, rfl, rfl⟩
       ·refine Wp.runG [15, 21] (by kernel_rfl) (.inr (by intro v e A h; simp only [amK, amQ, thenQ, blockQ, endQ, reduceCtorEq, false_and, exists_false] at h)) ?_
        simp (maxSteps := 2000000) (disch := first | omega | (simp only [AH.zN, AH.zP] <;> omega) | fail) only [amR Try.prog ro X, amS, seval, reduceCtorEq, ty3, ty4, ty5, ty9, ty25, ty44, h3, h4, h11, h12, n1, c1, c2, hq]
        refine (Sum.impl_a A5 (by omega) ts[i] w (by omega)).mono ?_
        rintro r A6 ⟨rfl, hE6⟩
        have z6 := hE6.size
        have c2' := c2
        rw [← hE6.get _ b2] at c2'
        simp (maxSteps := 2000000) (disch := first | omega | (simp only [AH.zN, AH.zP] <;> omega) | fail) only [amR Try.prog ro X, amS, seval, reduceCtorEq, ty3, ty4, ty5, ty9, ty25, ty44, h3, h4, h11, h12, n1, c1, c2, c2', hq]
        refine ⟨fun b hb => hE6.get b hb, ?_⟩
        refine (Sum.impl_a A6 (by omega) ts[j] w (by omega)).mono ?_
        rintro r A7 ⟨rfl, hE7⟩
        have z7 := hE7.size
        have hns : ¬ sumS ts[i] w = sumS ts[j] w := fun e => hq (hno _ (List.getElem_mem _) _ (List.getElem_mem _) e)
        simp (maxSteps := 2000000) (disch := first | omega | (simp only [AH.zN, AH.zP] <;> omega) | fail) only [amR Try.prog ro X, amS, seval, reduceCtorEq, ty3, ty4, ty5, ty9, ty25, ty44, h3, h4, h11, h12, n1, c1, c2, c2', hq, hns]
        exact ⟨fun b hb => hE7.get b hb, i - (j + 1), by omega, (hE5.trans hE6).trans hE7, j + 1, by omega, rfl, rfl⟩
      ·have hji : j = i := by simp at h; omega
       simp (maxSteps := 2000000) (disch := first | omega | (simp only [AH.zN, AH.zP] <;> omega) | fail) only [amR Try.prog ro X, amS, seval, reduceCtorEq, ty3, ty4, ty5, ty9, ty25, ty44, h3, h4, h11]
       exact ⟨ts.length - (i + 1), by omega, hE5, i + 1, by omega, rfl, rfl⟩
    ·simp (maxSteps := 2000000) (disch := first | omega | (simp only [AH.zN, AH.zP] <;> omega) | fail) only [amR Try.prog ro X, amS, seval, reduceCtorEq, ty3, ty4, ty5, ty9, ty25, ty44, h4]
     have hzw := sumS_size ⟨#[97]⟩ hisw
     refine (Sum.impl_a A4 (by omega) _ w (by decide)).mono ?_
     rintro r A5 ⟨rfl, hE5⟩
     simp (maxSteps := 2000000) (disch := first | omega | (simp only [AH.zN, AH.zP] <;> omega) | fail) only [amR Try.prog ro X, amS, seval, reduceCtorEq, ty3, ty4, ty5, ty9, ty25, ty44, h4, hzw]
     rw [decide_eq_true (by omega)]
end Go.Proofs.Ytaiagocjnnfkmaa.Amu.LFnClash
