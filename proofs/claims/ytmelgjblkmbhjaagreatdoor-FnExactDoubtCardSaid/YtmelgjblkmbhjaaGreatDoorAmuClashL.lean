import Derived.Test.YtmelgjblkmbhjaaGreatDoorAmuTy
import Derived.Test.YtmelgjblkmbhjaaGreatDoorAmTX
import Derived.Test.YtmelgjblkmbhjaaGreatDoorAmuSum
import Derived.Test.YtmelgjblkmbhjaaGreatDoorProg
namespace Go.Proofs.YtmelgjblkmbhjaaGreatDoor.Amu.Clash
open Go Go.AM Go.Proofs
set_option linter.all false
open Ty
variable {ro : Nat} {X : FuncId → List Value → AH → ARes → AH → Prop}
set_option maxRecDepth 10000
theorem clash_a (A : AH) (hro : ro ≤ A.size) (s : Sl) (l : List ByteArray) (F : List Nat) (hs : SlR A s l F) (w : Int) (hl : l.length < 1152921504606846976) :
 ACalls Tryz.prog ro X 49 [s.v, .int .i64 w] A (fun r A' => r = .ret (clashV (clashL l w)) ∧ Ext A A') := by
 refine ACalls.enterQ (rs := [.tmp 4, .tmp 5, .tmp 6]) Tryz.func49 rfl (by kernel_rfl) rfl ?_
 have hlen := hs.len
 simp (maxSteps := 2000000) (disch := first | omega | (simp only [AH.zN, AH.zP] <;> omega) | fail) only [amR Tryz.prog ro X, amS, seval, reduceCtorEq, ty3, ty4, ty9, ty22, ty81, hlen]
 refine Wp.loopC (fun n e A' => Ext A A' ∧ A.size < A'.size ∧ e 14 = s.v ∧ e 15 = .int .i64 l.length ∧ e 1 = .int .i64 w ∧ e 7 = .map (some A.size) ∧ ∃ i : Nat, i ≤ l.length ∧ n = l.length - i ∧ e 16 = .int .i64 i ∧ NoClash w (l.take i) ∧ clashGo w (l.take i) (l.drop i) = clashL l w ∧
  ∃ es, A'.get A.size = .map (mp es) ∧ ∀ k, lk es k = ((l.take i).find? (fun x => decide (sumS x w = k))).map Value.string) (l.length - 0) ?_ ?_
 ·simp (maxSteps := 2000000) (disch := first | omega | (simp only [AH.zN, AH.zP] <;> omega) | fail) only [amV, amH, amQ, amL, amN Tryz.prog, amS, seval, reduceCtorEq, ty3, ty4, ty9, ty22, ty81, hlen]
  refine ⟨Ext.new A _, by omega, 0, by omega, rfl, rfl, by simp [NoClash], rfl, [], rfl, fun k => rfl⟩
 ·rintro n e A' ⟨hE, hz, h14, h15, h1, h7, i, hi, rfl, h16, hnc, hgo, es, hg, hlk⟩
  simp (maxSteps := 2000000) (disch := first | omega | (simp only [AH.zN, AH.zP] <;> omega) | fail) only [amR Tryz.prog ro X, amS, seval, reduceCtorEq, ty3, ty4, ty9, ty22, ty81, h14, h15, h16]
  refine CondB.split (fun h => ?_) (fun h => ?_)
  ·have hil : i < l.length := by simpa using h
   obtain ⟨n1, b1, m1, i1, c1, q1⟩ := (hs.ext hE).str hil
   rw [aCell_eq] at c1
   simp (maxSteps := 2000000) (disch := first | omega | (simp only [AH.zN, AH.zP] <;> omega) | fail) only [amR Tryz.prog ro X, amS, seval, reduceCtorEq, ty3, ty4, ty9, ty22, ty81, h1, h14, h16, n1, c1]
   refine (Sum.impl_a A' (by omega) l[i] w q1).mono ?_
   rintro r A2 ⟨rfl, hE2⟩
   have z2 := hE2.size
   have hg2 : A2.get A.size = .map (mp es) := (hE2.get _ hz).trans hg
   have hlook := look2 (P := Tryz.prog) (t := 81) (e := 9) (z := .string ⟨#[]⟩) (by simp only [ty81]) (by simp only [ty9]; rfl) hg2 (sumS l[i] w)
   rw [hlk] at hlook
   have hd : l.drop i = l[i] :: l.drop (i + 1) := List.drop_eq_getElem_cons hil
   rw [hd, clashGo] at hgo
   have hoth := hnc.other l[i]
   cases hf : (l.take i).find? (fun x => decide (sumS x w = sumS l[i] w)) with
   | none =>
     rw [hf] at hlook hoth
     simp only [Option.map_none] at hlook
     simp only at hoth
     rw [hoth] at hgo
     have hset := mset (P := Tryz.prog) (ro := ro) (t := 81) (e := 9) (by simp only [ty81]) hg2 hro (sumS l[i] w) (v := .string l[i]) rfl
     simp (maxSteps := 2000000) (disch := first | omega | (simp only [AH.zN, AH.zP] <;> omega) | fail) only [amR Tryz.prog ro X, amS, seval, reduceCtorEq, ty3, ty4, ty9, ty22, ty81, h1, h7, h14, h15, h16, hlook, hset]
     refine ⟨l.length - (i + 1), by omega, (hE.trans hE2).put (Nat.le_refl _) _, by omega, i + 1, by omega, rfl, by simp, ?_, ?_, _, rfl, fun k => ?_⟩
     ·rw [List.take_succ_eq_append_getElem hil]
      exact hnc.snoc hoth
     ·rw [List.take_succ_eq_append_getElem hil]
      exact hgo
     ·rw [lk_kset, hlk, List.take_succ_eq_append_getElem hil, List.find?_append]
      by_cases hk : k = sumS l[i] w
      ·subst hk
       rw [hf, if_pos rfl]
       simp
      ·rw [if_neg hk]
       have hk' : ¬ sumS l[i] w = k := fun e => hk e.symm
       simp [hk']
   | some f =>
     rw [hf] at hlook hoth
     simp only [Option.map_some] at hlook
     simp only at hoth
     by_cases hft : f = l[i]
     ·rw [if_pos hft] at hoth
      rw [hoth] at hgo
      simp (maxSteps := 2000000) (disch := first | omega | (simp only [AH.zN, AH.zP] <;> omega) | fail) only [amR Tryz.prog ro X, amS, seval, reduceCtorEq, ty3, ty4, ty9, ty22, ty81, h1, h7, h14, h15, h16, hlook, hft]
      refine ⟨l.length - (i + 1), by omega, hE.trans hE2, by omega, i + 1, by omega, rfl, by simp, ?_, ?_, es, hg2, fun k => ?_⟩
      ·rw [List.take_succ_eq_append_getElem hil]
       exact hnc.snoc hoth
      ·rw [List.take_succ_eq_append_getElem hil]
       exact hgo
      ·rw [hlk, List.take_succ_eq_append_getElem hil, List.find?_append]
       by_cases hk : sumS l[i] w = k
       ·subst hk
        rw [hf]
        simp
       ·simp [hk]
     ·rw [if_neg hft] at hoth
      rw [hoth] at hgo
      simp (maxSteps := 2000000) (disch := first | omega | (simp only [AH.zN, AH.zP] <;> omega) | fail) only [amR Tryz.prog ro X, amS, seval, reduceCtorEq, ty3, ty4, ty9, ty22, ty81, h1, h7, h14, h15, h16, hlook, hft]
      refine ⟨?_, hE.trans hE2⟩
      rw [← hgo]
      rfl
  ·have hil : i = l.length := by simp at h; omega
   subst hil
   rw [List.drop_length] at hgo
   simp (maxSteps := 2000000) (disch := first | omega | (simp only [AH.zN, AH.zP] <;> omega) | fail) only [amR Tryz.prog ro X, amS, seval, reduceCtorEq, ty3, ty4, ty9, ty22, ty81]
   refine ⟨?_, hE⟩
   rw [← hgo]
   rfl
end Go.Proofs.YtmelgjblkmbhjaaGreatDoor.Amu.Clash
