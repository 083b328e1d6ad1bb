import Derived.Test.YtaiagocjnnfkmaaAmuTy
import Derived.Test.YtaiagocjnnfkmaaAmTX
import Derived.Test.YtaiagocjnnfkmaaAmuSum
import Derived.Test.YtaiagocjnnfkmaaProg
namespace Go.Proofs.Ytaiagocjnnfkmaa.Amu.Clash
open Go Go.AM Go.Proofs
set_option linter.unusedVariables false
set_option linter.unusedSimpArgs false
open Ty
variable {ro : Nat} {X : FuncId → List Value → AH → ARes → AH → Prop}
set_option maxRecDepth 10000
theorem clash_a (A : AH) (hro : ro ≤ A.size) (s : Sl) (l : List ByteArray) (F : List Nat) (hs : SlR A s l F) (w : Int) (hl : l.length < 1152921504606846976) :
 ACalls Try.prog ro X 31 [s.v, .int .i64 w] A (fun r A' => r = .ret (clashV (clashL l w)) ∧ Ext A A') := by
 refine ACalls.enterQ (rs := [.tmp 4, .tmp 5, .tmp 6]) Try.func31 rfl (by kernel_rfl) rfl ?_
 have hlen := hs.len
 simp (maxSteps := 2000000) (disch := first | omega | (simp only [AH.zN, AH.zP] <;> omega) | fail) only [amR Try.prog ro X, amS, seval, reduceCtorEq, ty3, ty4, ty9, ty25, ty56, hlen]
 refine Wp.loopC (fun n e A' => Ext A A' ∧ A.size < A'.size ∧ e 14 = s.v ∧ e 15 = .int .i64 l.length ∧ e 1 = .int .i64 w ∧ e 7 = .map (some A.size) ∧ ∃ i : Nat, i ≤ l.length ∧ n = l.length - i ∧ e 16 = .int .i64 i ∧ NoClash w (l.take i) ∧ clashGo w (l.take i) (l.drop i) = clashL l w ∧
  ∃ es, A'.get A.size = .map (mp es) ∧ ∀ k, lk es k = ((l.take i).find? (fun x => decide (sumS x w = k))).map Value.string) (l.length - 0) ?_ ?_
 ·simp (maxSteps := 2000000) (disch := first | omega | (simp only [AH.zN, AH.zP] <;> omega) | fail) only [amV, amH, amQ, amL, amN Try.prog, amS, seval, reduceCtorEq, ty3, ty4, ty9, ty25, ty56, hlen]
  refine ⟨Ext.new A _, by omega, 0, by omega, rfl, rfl, by simp [NoClash], rfl, [], rfl, fun k => rfl⟩
 ·rintro n e A' ⟨hE, hz, h14, h15, h1, h7, i, hi, rfl, h16, hnc, hgo, es, hg, hlk⟩
  simp (maxSteps := 2000000) (disch := first | omega | (simp only [AH.zN, AH.zP] <;> omega) | fail) only [amR Try.prog ro X, amS, seval, reduceCtorEq, ty3, ty4, ty9, ty25, ty56, h14, h15, h16]
  refine CondB.split (fun h => ?_) (fun h => ?_)
  ·have hil : i < l.length := by simpa using h
   obtain ⟨n1, b1, m1, i1, c1, q1⟩ := (hs.ext hE).str hil
   rw [aCell_eq] at c1
   simp (maxSteps := 2000000) (disch := first | omega | (simp only [AH.zN, AH.zP] <;> omega) | fail) only [amR Try.prog ro X, amS, seval, reduceCtorEq, ty3, ty4, ty9, ty25, ty56, h1, h14, h16, n1, c1]
   refine (Sum.impl_a A' (by omega) l[i] w q1).mono ?_
   rintro r A2 ⟨rfl, hE2⟩
   have z2 := hE2.size
   have hg2 : A2.get A.size = .map (mp es) := (hE2.get _ hz).trans hg
   have hlook := look2 (P := Try.prog) (t := 56) (e := 9) (z := .string ⟨#[]⟩) (by simp only [ty56]) (by simp only [ty9]; rfl) hg2 (sumS l[i] w)
   rw [hlk] at hlook
   have hd : l.drop i = l[i] :: l.drop (i + 1) := List.drop_eq_getElem_cons hil
   rw [hd, clashGo] at hgo
   have hoth := hnc.other l[i]
   cases hf : (l.take i).find? (fun x => decide (sumS x w = sumS l[i] w)) with
   | none =>
     rw [hf] at hlook hoth
     simp only [Option.map_none] at hlook
     simp only at hoth
     rw [hoth] at hgo
     have hset := mset (P := Try.prog) (ro := ro) (t := 56) (e := 9) (by simp only [ty56]) hg2 hro (sumS l[i] w) (v := .string l[i]) rfl
     simp (maxSteps := 2000000) (disch := first | omega | (simp only [AH.zN, AH.zP] <;> omega) | fail) only [amR Try.prog ro X, amS, seval, reduceCtorEq, ty3, ty4, ty9, ty25, ty56, h1, h7, h14, h15, h16, hlook, hset]
     refine ⟨l.length - (i + 1), by omega, (hE.trans hE2).put (Nat.le_refl _) _, by omega, i + 1, by omega, rfl, by simp, ?_, ?_, _, rfl, fun k => ?_⟩
     ·rw [List.take_succ_eq_append_getElem hil]
      exact hnc.snoc hoth
     ·rw [List.take_succ_eq_append_getElem hil]
      exact hgo
     ·rw [lk_kset, hlk, List.take_succ_eq_append_getElem hil, List.find?_append]
      by_cases hk : k = sumS l[i] w
      ·subst hk
       rw [hf, if_pos rfl]
       simp
      ·rw [if_neg hk]
       have hk' : ¬ sumS l[i] w = k := fun e => hk e.symm
       simp [hk']
   | some f =>
     rw [hf] at hlook hoth
     simp only [Option.map_some] at hlook
     simp only at hoth
     by_cases hft : f = l[i]
     ·rw [if_pos hft] at hoth
      rw [hoth] at hgo
      simp (maxSteps := 2000000) (disch := first | omega | (simp only [AH.zN, AH.zP] <;> omega) | fail) only [amR Try.prog ro X, amS, seval, reduceCtorEq, ty3, ty4, ty9, ty25, ty56, h1, h7, h14, h15, h16, hlook, hft]
      refine ⟨l.length - (i + 1), by omega, hE.trans hE2, by omega, i + 1, by omega, rfl, by simp, ?_, ?_, es, hg2, fun k => ?_⟩
      ·rw [List.take_succ_eq_append_getElem hil]
       exact hnc.snoc hoth
      ·rw [List.take_succ_eq_append_getElem hil]
       exact hgo
      ·rw [hlk, List.take_succ_eq_append_getElem hil, List.find?_append]
       by_cases hk : sumS l[i] w = k
       ·subst hk
        rw [hf]
        simp
       ·simp [hk]
     ·rw [if_neg hft] at hoth
      rw [hoth] at hgo
      simp (maxSteps := 2000000) (disch := first | omega | (simp only [AH.zN, AH.zP] <;> omega) | fail) only [amR Try.prog ro X, amS, seval, reduceCtorEq, ty3, ty4, ty9, ty25, ty56, h1, h7, h14, h15, h16, hlook, hft]
      refine ⟨?_, hE.trans hE2⟩
      rw [← hgo]
      rfl
  ·have hil : i = l.length := by simp at h; omega
   subst hil
   rw [List.drop_length] at hgo
   simp (maxSteps := 2000000) (disch := first | omega | (simp only [AH.zN, AH.zP] <;> omega) | fail) only [amR Try.prog ro X, amS, seval, reduceCtorEq, ty3, ty4, ty9, ty25, ty56]
   refine ⟨?_, hE⟩
   rw [← hgo]
   rfl
theorem implClash_a (A : AH) (hro : ro ≤ A.size) (s : Sl) (l : List ByteArray) (F : List Nat) (hs : SlR A s l F) (w : Int) (hl : l.length < 1152921504606846976) :
 ACalls Try.prog ro X 23 [s.v, .int .i64 w] A (fun r A' => r = .ret (clashV (clashR l w)) ∧ Ext A A') := by
 refine ACalls.enterQ (rs := [.tmp 4, .tmp 5, .tmp 6]) Try.func23 rfl (by kernel_rfl) rfl ?_
 have hlen := hs.len
 simp (maxSteps := 2000000) (disch := first | omega | (simp only [AH.zN, AH.zP] <;> omega) | fail) only [amR Try.prog ro X, amS, seval, reduceCtorEq, ty3, ty4, ty9, ty25]
 refine (Sum.impl.isWidth_a A w).mono ?_
 rintro r A1 ⟨rfl, rfl⟩
 by_cases hw : isW w
 ·by_cases h5 : (5000 : Int) < l.length
  ·simp (maxSteps := 2000000) (disch := first | omega | (simp only [AH.zN, AH.zP] <;> omega) | fail) only [amR Try.prog ro X, amS, seval, reduceCtorEq, ty3, ty4, ty9, ty25, hw, h5, hlen]
   refine ⟨?_, Ext.refl _⟩
   rw [clashR, if_neg (by omega)]
   rfl
  ·simp (maxSteps := 2000000) (disch := first | omega | (simp only [AH.zN, AH.zP] <;> omega) | fail) only [amR Try.prog ro X, amS, seval, reduceCtorEq, ty3, ty4, ty9, ty25, hw, h5, hlen]
   refine (clash_a A1 hro s l F hs w hl).mono ?_
   rintro r A2 ⟨rfl, hE⟩
   have e : clashR l w = clashL l w := by rw [clashR, if_pos ⟨hw, by omega⟩]
   rw [e]
   cases hc : clashL l w with
   | none => simp (maxSteps := 2000000) (disch := first | omega | (simp only [AH.zN, AH.zP] <;> omega) | fail) only [amR Try.prog ro X, amS, seval, reduceCtorEq, ty3, ty4, ty9, ty25, clashV]; exact hE
   | some x => simp (maxSteps := 2000000) (disch := first | omega | (simp only [AH.zN, AH.zP] <;> omega) | fail) only [amR Try.prog ro X, amS, seval, reduceCtorEq, ty3, ty4, ty9, ty25, clashV]; exact hE
 ·simp (maxSteps := 2000000) (disch := first | omega | (simp only [AH.zN, AH.zP] <;> omega) | fail) only [amR Try.prog ro X, amS, seval, reduceCtorEq, ty3, ty4, ty9, ty25, hw]
  refine ⟨?_, Ext.refl _⟩
  rw [clashR, if_neg (fun h => hw h.1)]
  rfl
theorem specClash_a (A : AH) (hro : ro ≤ A.size) (s : Sl) (l : List ByteArray) (F : List Nat) (hs : SlR A s l F) (w : Int) (hl : l.length < 1152921504606846976) :
 ACalls Try.prog ro X 21 [s.v, .int .i64 w] A (fun r A' => r = .ret (clashV (clashR l w)) ∧ Ext A A') := by
 refine ACalls.enterQ (rs := [.tmp 4, .tmp 5, .tmp 6]) Try.func21 rfl (by kernel_rfl) rfl ?_
 have hlen := hs.len
 simp (maxSteps := 2000000) (disch := first | omega | (simp only [AH.zN, AH.zP] <;> omega) | fail) only [amR Try.prog ro X, amS, seval, reduceCtorEq, ty3, ty4, ty9, ty25]
 refine (Sum.spec.l1Width_a A w).mono ?_
 rintro r A1 ⟨rfl, rfl⟩
 by_cases hw : isW w
 ·by_cases h5 : (5000 : Int) < l.length
  ·simp (maxSteps := 2000000) (disch := first | omega | (simp only [AH.zN, AH.zP] <;> omega) | fail) only [amR Try.prog ro X, amS, seval, reduceCtorEq, ty3, ty4, ty9, ty25, hw, h5, hlen]
   refine ⟨?_, Ext.refl _⟩
   rw [clashR, if_neg (by omega)]
   rfl
  ·have e : clashR l w = clashL l w := by rw [clashR, if_pos ⟨hw, by omega⟩]
   rw [e]
   simp (maxSteps := 2000000) (disch := first | omega | (simp only [AH.zN, AH.zP] <;> omega) | fail) only [amR Try.prog ro X, amS, seval, reduceCtorEq, ty3, ty4, ty9, ty25, hw, h5, hlen]
   refine Wp.loopC (fun n e A' => Ext A1 A' ∧ e 0 = s.v ∧ e 1 = .int .i64 w ∧ ∃ i : Nat, i ≤ l.length ∧ n = l.length - i ∧ e 8 = .int .i64 i ∧ clashGo w (l.take i) (l.drop i) = clashL l w ∧
    ∃ s2, e 7 = s2.v ∧ Acc A1.size A' s2 ((l.take i).map fun x => sumS x w) []) (l.length - 0) ?_ ?_
   ·simp (maxSteps := 2000000) (disch := first | omega | (simp only [AH.zN, AH.zP] <;> omega) | fail) only [amV, amH, amQ, amL, amN Try.prog, amS, seval, reduceCtorEq, ty3, ty4, ty9, ty25, hlen]
    exact ⟨Ext.new _ _, 0, by omega, rfl, rfl, rfl, _, rfl, .empty _ _⟩
   ·rintro n e A' ⟨hE, h0, h1, i, hi, rfl, h8, hgo, s2, h7, hs2⟩
    have hz := hE.size
    simp (maxSteps := 2000000) (disch := first | omega | (simp only [AH.zN, AH.zP] <;> omega) | fail) only [amR Try.prog ro X, amS, seval, reduceCtorEq, ty3, ty4, ty9, ty25, h0, h8, hlen]
    refine CondB.split (fun h => ?_) (fun h => ?_)
    ·have hil : i < l.length := by simpa using h
     obtain ⟨n1, b1, m1, i1, c1, q1⟩ := (hs.ext hE).str hil
     rw [aCell_eq] at c1
     simp (maxSteps := 2000000) (disch := first | omega | (simp only [AH.zN, AH.zP] <;> omega) | fail) only [amR Try.prog ro X, amS, seval, reduceCtorEq, ty3, ty4, ty9, ty25, h0, h1, h8, n1, c1]
     refine (Sum.spec_a A' (by omega) l[i] w q1).mono ?_
     rintro r A2 ⟨rfl, hE2⟩
     have z2 := hE2.size
     have hd : l.drop i = l[i] :: l.drop (i + 1) := List.drop_eq_getElem_cons hil
     rw [hd, clashGo] at hgo
     have hsz := sumS_le l[i] w
     simp (maxSteps := 2000000) (disch := first | omega | (simp only [AH.zN, AH.zP] <;> omega) | fail) only [amR Try.prog ro X, amS, seval, reduceCtorEq, ty3, ty4, ty9, ty25, h0, h1, h7, h8]
     refine Wp.loopC (fun n e A' => A' = A2 ∧ e 0 = s.v ∧ e 1 = .int .i64 w ∧ e 7 = s2.v ∧ e 8 = .int .i64 i ∧ e 9 = .string (sumS l[i] w) ∧ ∃ j : Nat, j ≤ i ∧ n = i - j ∧ e 10 = .int .i64 j ∧ other w ((l.take i).take j) l[i] = none) (i - 0) ?_ ?_
     ·simp (maxSteps := 2000000) (disch := first | omega | (simp only [AH.zN, AH.zP] <;> omega) | fail) only [amV, amH, amQ, amL, amN Try.prog, amS, seval, reduceCtorEq, ty3, ty4, ty9, ty25]
      exact ⟨by rw [h0], by rw [h1], by rw [h7], by rw [h8], 0, by omega, rfl, rfl, rfl⟩
     ·rintro n e A3 ⟨rfl, h0, h1, h7, h8, h9, j, hj, rfl, h10, hoj⟩
      simp (maxSteps := 2000000) (disch := first | omega | (simp only [AH.zN, AH.zP] <;> omega) | fail) only [amR Try.prog ro X, amS, seval, reduceCtorEq, ty3, ty4, ty9, ty25, h8, h10]
      refine CondB.split (fun h => ?_) (fun h => ?_)
      ·have hji : j < i := by simpa using h
       obtain ⟨n2, b2, m2, i2, c2, q2⟩ := (hs.ext (hE.trans hE2)).str (i := j) (by omega)
       obtain ⟨n3, b3, m3, i3, c3, q3⟩ := (hs.ext (hE.trans hE2)).str hil
       obtain ⟨F2, hF2, _⟩ := (hs2.ext hE2).slr
       obtain ⟨n4, b4, m4, i4, c4, q4⟩ := hF2.str (i := j) (by simp; omega)
       rw [aCell_eq] at c2 c3 c4
       have e4 : ((l.take i).map fun x => sumS x w)[j]'(by simp; omega) = sumS l[j] w := by simp
       rw [e4] at c4
       have htj : (l.take i).take (j + 1) = (l.take i).take j ++ [l[j]] := by rw [List.take_succ_eq_append_getElem (by simp; omega)]; simp
       simp (maxSteps := 2000000) (disch := first | omega | (simp only [AH.zN, AH.zP] <;> omega) | fail) only [amR Try.prog ro X, amS, seval, reduceCtorEq, ty3, ty4, ty9, ty25]
       refine Wp.runG [] (by kernel_rfl) (.inl (by kernel_rfl)) ?_
       by_cases hs1 : sumS l[j] w = sumS l[i] w
       ·by_cases hne : l[j] = l[i]
        ·simp (maxSteps := 2000000) (disch := first | omega | (simp only [AH.zN, AH.zP] <;> omega) | fail) only [amR Try.prog ro X, amS, seval, reduceCtorEq, ty3, ty4, ty9, ty25, h0, h7, h8, h9, h10, n2, n4, c2, c3, c4, hs1, hne]
         refine ⟨i - (j + 1), by omega, h1, j + 1, by omega, rfl, by simp, ?_⟩
         rw [htj]
         simp only [other, List.find?_append, Option.or_eq_none_iff] at hoj ⊢
         exact ⟨hoj, by simp [hne]⟩
        ·simp (maxSteps := 2000000) (disch := first | omega | (simp only [AH.zN, AH.zP] <;> omega) | fail) only [amR Try.prog ro X, amS, seval, reduceCtorEq, ty3, ty4, ty9, ty25, h0, h7, h8, h9, h10, n2, n4, c2, c3, c4, hs1, hne]
         refine Wp.runG [] (by kernel_rfl) (.inl (by kernel_rfl)) ?_
         simp (maxSteps := 2000000) (disch := first | omega | (simp only [AH.zN, AH.zP] <;> omega) | fail) only [amR Try.prog ro X, amS, seval, reduceCtorEq, ty3, ty4, ty9, ty25, h0, h7, h8, h9, h10, n2, n4, c2, c3, c4, hs1, hne]
         refine ⟨?_, hE.trans hE2⟩
         have hfind : other w (l.take i) l[i] = some l[j] := by
          have hsp : l.take i = (l.take i).take (j + 1) ++ (l.take i).drop (j + 1) := (List.take_append_drop _ _).symm
          rw [hsp, htj]
          simp only [other, List.find?_append] at hoj ⊢
          rw [hoj]
          simp [hs1, hne]
         rw [hfind] at hgo
         rw [← hgo]
         rfl
       ·simp (maxSteps := 2000000) (disch := first | omega | (simp only [AH.zN, AH.zP] <;> omega) | fail) only [amR Try.prog ro X, amS, seval, reduceCtorEq, ty3, ty4, ty9, ty25, h0, h7, h8, h9, h10, n2, n4, c2, c3, c4, hs1]
        refine ⟨i - (j + 1), by omega, h1, j + 1, by omega, rfl, by simp, ?_⟩
        rw [htj]
        simp only [other, List.find?_append, Option.or_eq_none_iff] at hoj ⊢
        exact ⟨hoj, by simp [hs1]⟩
      ·have hji : j = i := by simp at h; omega
       subst hji
       rw [List.take_take, Nat.min_self] at hoj
       rw [hoj] at hgo
       obtain ⟨s', A4, hap, hs', hg, hz4, _⟩ := (hs2.ext hE2).lit (P := Try.prog) (ro := ro) (t := 25) (n := 1) (vs := [.string (sumS l[j] w)]) (xs := [sumS l[j] w]) (by omega) (by simp only [ty25]; rfl) rfl (Reps.one ⟨rfl, rfl, by unfold BIG; omega⟩) (.inr (by simp)) (by simp; omega) (by omega)
       rw [show Dat.w ByteArray = 1 from rfl] at hap
       simp (maxSteps := 2000000) (disch := first | omega | (simp only [AH.zN, AH.zP] <;> omega) | fail) only [amR Try.prog ro X, amS, seval, reduceCtorEq, ty3, ty4, ty9, ty25, h0, h1, h7, h8, h9, hap]
       refine ⟨l.length - (j + 1), by omega, hg.ext (hE.trans hE2) (Nat.le_refl _), j + 1, by omega, rfl, by simp, ?_, s', rfl, ?_⟩
       ·rw [List.take_succ_eq_append_getElem hil]; exact hgo
       ·rw [List.take_succ_eq_append_getElem hil, List.map_append]; exact hs'
    ·have hil : i = l.length := by simp at h; omega
     subst hil
     rw [List.drop_length] at hgo
     simp (maxSteps := 2000000) (disch := first | omega | (simp only [AH.zN, AH.zP] <;> omega) | fail) only [amR Try.prog ro X, amS, seval, reduceCtorEq, ty3, ty4, ty9, ty25]
     refine ⟨?_, hE⟩
     rw [← hgo]
     rfl
 ·simp (maxSteps := 2000000) (disch := first | omega | (simp only [AH.zN, AH.zP] <;> omega) | fail) only [amR Try.prog ro X, amS, seval, reduceCtorEq, ty3, ty4, ty9, ty25, hw]
  refine ⟨?_, Ext.refl _⟩
  rw [clashR, if_neg (fun h => hw h.1)]
  rfl
end Go.Proofs.Ytaiagocjnnfkmaa.Amu.Clash
