import Derived.Test.YtjlbcofopapajaaDoorAmuTy
import Derived.Test.YtjlbcofopapajaaDoorAmRun
import Derived.Test.YtjlbcofopapajaaDoorAmBld
import Derived.Test.YtjlbcofopapajaaDoorAmuQuote
namespace Go.Proofs.YtjlbcofopapajaaDoor.Amu.Hex
open Go Go.AM Go.Proofs
set_option linter.all false
open Ty
variable {ro : Nat} {X : FuncId → List Value → AH → ARes → AH → Prop}
set_option maxRecDepth 10000
theorem hexOf_a (A : AH) (hro : ro ≤ A.size) (s : ByteArray) (hs : s.size < 1073741824) :
 ACalls Tryd.prog ro X 65 [.string s] A (fun r A' => r = .ret (.string (hexS s)) ∧ Ext A A') := by
 refine ACalls.enterQ (rs := [.tmp 2]) Tryd.func65 rfl (by kernel_rfl) rfl ?_
 simp (maxSteps := 2000000) (disch := first | omega | (simp only [AH.zN, AH.zP] <;> omega) | fail) only [amR Tryd.prog ro X, amS, seval, reduceCtorEq, ty3, ty5, ty9, ty69]
 refine Wp.loopC (fun k e A' => Ext A A' ∧ e 0 = .string s ∧ ∃ i : Nat, i ≤ s.size ∧ k = s.size - i ∧ e 4 = .int .i64 i ∧ ∃ u, e 3 = u.v ∧ AM.Acc A.size A' u (hexL2 ((ls s).take i)) []) (s.size - 0) ?_ ?_
 ·simp (maxSteps := 2000000) (disch := first | omega | (simp only [AH.zN, AH.zP] <;> omega) | fail) only [amV, amH, amQ, amL, amN Tryd.prog, amS, seval, reduceCtorEq, ty3, ty5, ty9, ty69]
  exact ⟨Ext.refl _, 0, by omega, rfl, rfl, .nil, rfl, .nil⟩
 ·rintro k e A' ⟨hE, e0, i, hi, rfl, e4, u, e3, hacc⟩
  have zE := hE.size
  have hll : (ls s).length = s.size := by show s.data.toList.length = s.data.size; simp
  simp (maxSteps := 2000000) (disch := first | omega | (simp only [AH.zN, AH.zP] <;> omega) | fail) only [amR Tryd.prog ro X, amS, seval, reduceCtorEq, ty3, ty5, ty9, ty69, e0, e4]
  refine CondB.split (fun h => ?_) (fun h => ?_)
  ·have hil : i < s.size := by simp at h; omega
   have hli : i < (ls s).length := by omega
   have hql := hexL2_len ((ls s).take i)
   rw [List.length_take] at hql
   obtain ⟨c, hc⟩ : ∃ c, c = bget s i := ⟨_, rfl⟩
   have hcg : (ls s)[i] = c := by rw [hc]; exact bget_ls s i hil
   have c256 := c.toNat_lt
   obtain ⟨u', H', hap, hs', hg, hz5, _⟩ := hacc.lit (P := Tryd.prog) (ro := ro) (t := 69) (n := 2) (vs := [.int .u8 (hexB (c.toNat / 16)).toNat, .int .u8 (hexB (c.toNat % 16)).toNat]) (xs := [hexB (c.toNat / 16), hexB (c.toNat % 16)]) (by omega) (by simp only [ty69]; rfl) rfl (.cons (c := [.int .u8 (hexB (c.toNat / 16)).toNat]) (F := []) ⟨rfl, rfl⟩ (Reps.one ⟨rfl, rfl⟩)) (.inr (by simp)) (by omega) (by omega)
   rw [show Dat.w UInt8 = 1 from rfl] at hap
   have hq := @hexIx Tryd.prog 9 (by simp only [ty9])
   have q1 := hq .u8 (n := c.toNat / 16) (by omega)
   have q2 := hq .u8 (n := c.toNat % 16) (by omega)
   have q3 := and15 c.toNat (by omega)
   have q4 := shr4 c.toNat
   simp (maxSteps := 2000000) (disch := first | omega | (simp only [AH.zN, AH.zP] <;> omega) | fail) only [amR Tryd.prog ro X, amS, seval, reduceCtorEq, ty3, ty5, ty9, ty69, e0, e3, e4, ← hc]
   refine Wp.runG [] (by kernel_rfl) (.inr (by intro v e A h; simp only [amK, amQ, thenQ, blockQ, endQ, reduceCtorEq, false_and, exists_false] at h)) ?_
   simp (maxSteps := 2000000) (disch := first | omega | (simp only [AH.zN, AH.zP] <;> omega) | fail) only [amR Tryd.prog ro X, amS, seval, reduceCtorEq, ty3, ty5, ty9, ty69, e0, e3, e4, ← hc, q1, q2, q3, q4, and_eq, hap]
   refine ⟨s.size - (i + 1), by omega, hg.ext hE (Nat.le_refl _), i + 1, by omega, rfl, by simp, u', rfl, ?_⟩
   rw [hexL2_take_succ hli, hcg]
   simpa using hs'
  ·have hil : i = s.size := by simp at h; omega
   subst hil
   rw [← hll, List.take_length] at hacc
   obtain ⟨F, hF, _⟩ := hacc.slr
   simp (maxSteps := 2000000) (disch := first | omega | (simp only [AH.zN, AH.zP] <;> omega) | fail) only [amR Tryd.prog ro X, amS, seval, reduceCtorEq, ty3, ty5, ty9, ty69, e0, e3, hF.toStr]
   exact ⟨rfl, hE⟩
theorem l7Hex_a (A : AH) (hro : ro ≤ A.size) (s : ByteArray) (hs : s.size < 1073741824) :
 ACalls Tryd.prog ro X 178 [.string s] A (fun r A' => r = .ret (.string (hexS s)) ∧ Ext A A') := by
 refine ACalls.enterQ (rs := [.tmp 2]) Tryd.func178 rfl (by kernel_rfl) rfl ?_
 simp (maxSteps := 2000000) (disch := first | omega | (simp only [AH.zN, AH.zP] <;> omega) | fail) only [amR Tryd.prog ro X, amS, seval, reduceCtorEq, ty3, ty5, ty9, ty69]
 generalize hB : A.new _ = B
 have zB : B.size = A.size + 1 := by rw [← hB]; rfl
 have hEB : Ext A B := by rw [← hB]; exact Ext.new _ _
 clear hB
 refine Wp.loopC (fun k e A' => Ext A A' ∧ e 0 = .string s ∧ ∃ i : Nat, i ≤ s.size ∧ k = s.size - i ∧ e 4 = .int .i64 i ∧ ∃ u, e 3 = u.v ∧ AM.Acc A.size A' u (hexL2 ((ls s).take i)) []) (s.size - 0) ?_ ?_
 ·simp (maxSteps := 2000000) (disch := first | omega | (simp only [AH.zN, AH.zP] <;> omega) | fail) only [amV, amH, amQ, amL, amN Tryd.prog, amS, seval, reduceCtorEq, ty3, ty5, ty9, ty69]
  exact ⟨hEB, 0, by omega, rfl, rfl, _, rfl, .empty A.size 0⟩
 ·rintro k e A' ⟨hE, e0, i, hi, rfl, e4, u, e3, hacc⟩
  have zE := hE.size
  have hll : (ls s).length = s.size := by show s.data.toList.length = s.data.size; simp
  simp (maxSteps := 2000000) (disch := first | omega | (simp only [AH.zN, AH.zP] <;> omega) | fail) only [amR Tryd.prog ro X, amS, seval, reduceCtorEq, ty3, ty5, ty9, ty69, e0, e4]
  refine CondB.split (fun h => ?_) (fun h => ?_)
  ·have hil : i < s.size := by simp at h; omega
   have hli : i < (ls s).length := by omega
   have hql := hexL2_len ((ls s).take i)
   rw [List.length_take] at hql
   obtain ⟨c, hc⟩ : ∃ c, c = bget s i := ⟨_, rfl⟩
   have hcg : (ls s)[i] = c := by rw [hc]; exact bget_ls s i hil
   have c256 := c.toNat_lt
   obtain ⟨u', H', hap, hs', hg, hz5, _⟩ := hacc.lit (P := Tryd.prog) (ro := ro) (t := 69) (n := 2) (vs := [.int .u8 (hexB (c.toNat / 16)).toNat, .int .u8 (hexB (c.toNat % 16)).toNat]) (xs := [hexB (c.toNat / 16), hexB (c.toNat % 16)]) (by omega) (by simp only [ty69]; rfl) rfl (.cons (c := [.int .u8 (hexB (c.toNat / 16)).toNat]) (F := []) ⟨rfl, rfl⟩ (Reps.one ⟨rfl, rfl⟩)) (.inr (by simp)) (by omega) (by omega)
   rw [show Dat.w UInt8 = 1 from rfl] at hap
   simp (maxSteps := 2000000) (disch := first | omega | (simp only [AH.zN, AH.zP] <;> omega) | fail) only [amR Tryd.prog ro X, amS, seval, reduceCtorEq, ty3, ty5, ty9, ty69, e0, e3, e4, ← hc]
   refine (Quote.l2Hex_a A' (by omega) c).mono ?_
   rintro r A5 ⟨rfl, rfl⟩
   simp (maxSteps := 2000000) (disch := first | omega | (simp only [AH.zN, AH.zP] <;> omega) | fail) only [amR Tryd.prog ro X, amS, seval, reduceCtorEq, ty3, ty5, ty9, ty69, e0, e3, e4, ← hc, hap]
   refine ⟨s.size - (i + 1), by omega, hg.ext hE (Nat.le_refl _), i + 1, by omega, rfl, by simp, u', rfl, ?_⟩
   rw [hexL2_take_succ hli, hcg]
   simpa using hs'
  ·have hil : i = s.size := by simp at h; omega
   subst hil
   rw [← hll, List.take_length] at hacc
   obtain ⟨F, hF, _⟩ := hacc.slr
   simp (maxSteps := 2000000) (disch := first | omega | (simp only [AH.zN, AH.zP] <;> omega) | fail) only [amR Tryd.prog ro X, amS, seval, reduceCtorEq, ty3, ty5, ty9, ty69, e0, e3, hF.toStr]
   exact ⟨rfl, hE⟩
end Go.Proofs.YtjlbcofopapajaaDoor.Amu.Hex
