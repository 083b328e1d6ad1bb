import Derived.Test.YtjlbcofopapajaaDoorAmuTy
import Derived.Test.YtjlbcofopapajaaDoorAmRun
import Derived.Test.YtjlbcofopapajaaDoorAmBld
namespace Go.Proofs.YtjlbcofopapajaaDoor.Amu.Quote
open Go Go.AM Go.Proofs
set_option linter.all false
open Ty
variable {ro : Nat} {X : FuncId → List Value → AH → ARes → AH → Prop}
set_option maxRecDepth 10000
theorem quote_a (A : AH) (hro : ro ≤ A.size) (s : ByteArray) (hs : s.size < 1073741824) :
 ACalls Tryd.prog ro X 64 [.string s] A (fun r A' => r = .ret (.string (quoteS s)) ∧ Ext A A') := by
 refine ACalls.enterQ (rs := [.tmp 2]) Tryd.func64 rfl (by kernel_rfl) rfl ?_
 simp (maxSteps := 2000000) (disch := first | omega | (simp only [AH.zN, AH.zP] <;> omega) | fail) only [amR Tryd.prog ro X, amS, seval, reduceCtorEq, ty3, ty5, ty9, ty69]
 generalize hB : A.new _ = B
 have zB : B.size = A.size + 1 := by rw [← hB]; rfl
 have gB : B.get A.size = .cells [.int .u8 34] 1 := by rw [← hB]; exact AH.gNs _ _
 have hEB : Ext A B := by rw [← hB]; exact Ext.new _ _
 clear hB
 refine Wp.loopC (fun k e A' => Ext A A' ∧ e 0 = .string s ∧ ∃ i : Nat, i ≤ s.size ∧ k = s.size - i ∧ e 4 = .int .i64 i ∧ ∃ u, e 3 = u.v ∧ AM.Acc A.size A' u (34 :: qL ((ls s).take i)) [] ∧ A.size ≤ A'.size) (s.size - 0) ?_ ?_
 ·simp (maxSteps := 2000000) (disch := first | omega | (simp only [AH.zN, AH.zP] <;> omega) | fail) only [amV, amH, amQ, amL, amN Tryd.prog, amS, seval, reduceCtorEq, ty3, ty5, ty9, ty69]
  exact ⟨hEB, 0, by omega, rfl, rfl, _, rfl, .own (cs := [.int .u8 34]) (Nat.le_refl _) (by omega) (by simp) rfl (.inr ⟨rfl, by decide⟩) gB (Reps.one ⟨rfl, rfl⟩), by omega⟩
 ·rintro k e A' ⟨hE, e0, i, hi, rfl, e4, u, e3, hacc, hz⟩
  have hll : (ls s).length = s.size := by show s.data.toList.length = s.data.size; simp
  simp (maxSteps := 2000000) (disch := first | omega | (simp only [AH.zN, AH.zP] <;> omega) | fail) only [amR Tryd.prog ro X, amS, seval, reduceCtorEq, ty3, ty5, ty9, ty69, e0, e4]
  refine CondB.split (fun h => ?_) (fun h => ?_)
  ·have hil : i < s.size := by simp at h; omega
   have hli : i < (ls s).length := by omega
   have hcl := hacc.len
   have hql := qL_len ((ls s).take i)
   rw [List.length_take] at hql
   simp only [List.length_cons] at hcl
   obtain ⟨c, hc⟩ : ∃ c, c = bget s i := ⟨_, rfl⟩
   have hcg : (ls s)[i] = c := by rw [hc]; exact bget_ls s i hil
   have c256 := c.toNat_lt
   by_cases hp : plainB c
   ·obtain ⟨p1, p2, p3, p4⟩ := id hp
    have k1 : (32 : Int) ≤ c.toNat := by omega
    have k2 : (c.toNat : Int) ≤ 126 := by omega
    have k3 : ¬ (c.toNat : Int) = 34 := by omega
    have k4 : ¬ (c.toNat : Int) = 92 := by omega
    obtain ⟨u', H', hap, hs', hg, hz5, _⟩ := hacc.lit (P := Tryd.prog) (ro := ro) (t := 69) (n := 1) (vs := [.int .u8 c.toNat]) (xs := [c]) (by omega) (by simp only [ty69]; rfl) rfl (Reps.one ⟨rfl, rfl⟩) (.inr (by simp)) (by simp only [List.length_cons]; omega) (by omega)
    rw [show Dat.w UInt8 = 1 from rfl] at hap
    simp (maxSteps := 2000000) (disch := first | omega | (simp only [AH.zN, AH.zP] <;> omega) | fail) only [amR Tryd.prog ro X, amS, seval, reduceCtorEq, ty3, ty5, ty9, ty69, e0, e3, e4, ← hc, k1, k2, k3, k4, hap]
    refine ⟨s.size - (i + 1), by omega, hg.ext hE (Nat.le_refl _), i + 1, by omega, rfl, by simp, u', rfl, ?_, by omega⟩
    rw [qL_take_succ hli, hcg, show qB c = [c] from if_pos hp]
    simpa using hs'
   ·have hcase : (¬ (32 : Int) ≤ c.toNat) ∨ ((32 : Int) ≤ c.toNat ∧ ¬ (c.toNat : Int) ≤ 126) ∨ ((32 : Int) ≤ c.toNat ∧ (c.toNat : Int) ≤ 126 ∧ (c.toNat : Int) = 34) ∨ ((32 : Int) ≤ c.toNat ∧ (c.toNat : Int) ≤ 126 ∧ ¬ (c.toNat : Int) = 34 ∧ (c.toNat : Int) = 92) := by
     unfold plainB at hp; omega
    obtain ⟨u', H', hap, hs', hg, hz5, _⟩ := hacc.lit (P := Tryd.prog) (ro := ro) (t := 69) (n := 3) (vs := [.int .u8 92, .int .u8 (hexB (c.toNat / 16)).toNat, .int .u8 (hexB (c.toNat % 16)).toNat]) (xs := [92, hexB (c.toNat / 16), hexB (c.toNat % 16)]) (by omega) (by simp only [ty69]; rfl) rfl (.cons (c := [.int .u8 92]) (F := []) ⟨rfl, rfl⟩ (.cons (c := [.int .u8 (hexB (c.toNat / 16)).toNat]) (F := []) ⟨rfl, rfl⟩ (Reps.one ⟨rfl, rfl⟩))) (.inr (by simp)) (by simp only [List.length_cons]; omega) (by omega)
    rw [show Dat.w UInt8 = 1 from rfl] at hap
    have hq := @hexIx Tryd.prog 9 (by simp only [ty9])
    have q1 := hq .u8 (n := c.toNat / 16) (by omega)
    have q2 := hq .u8 (n := c.toNat % 16) (by omega)
    have q3 := and15 c.toNat (by omega)
    have q4 := shr4 c.toNat
    have fin : ∃ k, k < s.size - i ∧ Ext A H' ∧ ∃ i_1 : Nat, i_1 ≤ s.size ∧ k = s.size - i_1 ∧ Value.int .i64 ((i : Int) + 1) = .int .i64 i_1 ∧ ∃ u : Sl, u'.v = u.v ∧ AM.Acc A.size H' u (34 :: qL ((ls s).take i_1)) [] ∧ A.size ≤ H'.size := by
     refine ⟨s.size - (i + 1), by omega, hg.ext hE (Nat.le_refl _), i + 1, by omega, rfl, by simp, u', rfl, ?_, by omega⟩
     rw [qL_take_succ hli, hcg, show qB c = [92, hexB (c.toNat / 16), hexB (c.toNat % 16)] from if_neg hp]
     simpa using hs'
    rcases hcase with k1 | ⟨k1, k2⟩ | ⟨k1, k2, k3⟩ | ⟨k1, k2, k3, k4⟩
    ·simp (maxSteps := 2000000) (disch := first | omega | (simp only [AH.zN, AH.zP] <;> omega) | fail) only [amR Tryd.prog ro X, amS, seval, reduceCtorEq, ty3, ty5, ty9, ty69, e0, e3, e4, ← hc, k1]
     refine Wp.runG [] (by kernel_rfl) (.inr (by intro v e A h; simp only [amK, amQ, thenQ, blockQ, endQ, reduceCtorEq, false_and, exists_false] at h)) ?_
     simp (maxSteps := 2000000) (disch := first | omega | (simp only [AH.zN, AH.zP] <;> omega) | fail) only [amR Tryd.prog ro X, amS, seval, reduceCtorEq, ty3, ty5, ty9, ty69, e0, e3, e4, ← hc, q1, q2, q3, q4, and_eq, hap]
     exact fin
    ·simp (maxSteps := 2000000) (disch := first | omega | (simp only [AH.zN, AH.zP] <;> omega) | fail) only [amR Tryd.prog ro X, amS, seval, reduceCtorEq, ty3, ty5, ty9, ty69, e0, e3, e4, ← hc, k1, k2]
     refine Wp.runG [] (by kernel_rfl) (.inr (by intro v e A h; simp only [amK, amQ, thenQ, blockQ, endQ, reduceCtorEq, false_and, exists_false] at h)) ?_
     simp (maxSteps := 2000000) (disch := first | omega | (simp only [AH.zN, AH.zP] <;> omega) | fail) only [amR Tryd.prog ro X, amS, seval, reduceCtorEq, ty3, ty5, ty9, ty69, e0, e3, e4, ← hc, q1, q2, q3, q4, and_eq, hap]
     exact fin
    ·simp (maxSteps := 2000000) (disch := first | omega | (simp only [AH.zN, AH.zP] <;> omega) | fail) only [amR Tryd.prog ro X, amS, seval, reduceCtorEq, ty3, ty5, ty9, ty69, e0, e3, e4, ← hc, k1, k2, k3]
     rw [k3] at q3 q4
     refine Wp.runG [] (by kernel_rfl) (.inr (by intro v e A h; simp only [amK, amQ, thenQ, blockQ, endQ, reduceCtorEq, false_and, exists_false] at h)) ?_
     simp (maxSteps := 2000000) (disch := first | omega | (simp only [AH.zN, AH.zP] <;> omega) | fail) only [amR Tryd.prog ro X, amS, seval, reduceCtorEq, ty3, ty5, ty9, ty69, e0, e3, e4, ← hc, q1, q2, q3, q4, and_eq, hap]
     exact fin
    ·simp (maxSteps := 2000000) (disch := first | omega | (simp only [AH.zN, AH.zP] <;> omega) | fail) only [amR Tryd.prog ro X, amS, seval, reduceCtorEq, ty3, ty5, ty9, ty69, e0, e3, e4, ← hc, k1, k2, k3, k4]
     rw [k4] at q3 q4
     refine Wp.runG [] (by kernel_rfl) (.inr (by intro v e A h; simp only [amK, amQ, thenQ, blockQ, endQ, reduceCtorEq, false_and, exists_false] at h)) ?_
     simp (maxSteps := 2000000) (disch := first | omega | (simp only [AH.zN, AH.zP] <;> omega) | fail) only [amR Tryd.prog ro X, amS, seval, reduceCtorEq, ty3, ty5, ty9, ty69, e0, e3, e4, ← hc, q1, q2, q3, q4, and_eq, hap]
     exact fin
  ·have hil : i = s.size := by simp at h; omega
   subst hil
   rw [← hll, List.take_length] at hacc
   have hcl := hacc.len
   have hql := qL_len (ls s)
   simp only [List.length_cons] at hcl
   obtain ⟨u', H', hap, hs', hg, hz5, _⟩ := hacc.lit (P := Tryd.prog) (ro := ro) (t := 69) (n := 1) (vs := [.int .u8 34]) (xs := [34]) (by omega) (by simp only [ty69]; rfl) rfl (Reps.one ⟨rfl, rfl⟩) (.inr (by simp)) (by simp only [List.length_cons]; omega) (by omega)
   rw [show Dat.w UInt8 = 1 from rfl] at hap
   obtain ⟨F, hF, _⟩ := hs'.slr
   simp (maxSteps := 2000000) (disch := first | omega | (simp only [AH.zN, AH.zP] <;> omega) | fail) only [amR Tryd.prog ro X, amS, seval, reduceCtorEq, ty3, ty5, ty9, ty69, e0, e3, hap, hF.toStr]
   exact ⟨rfl, hg.ext hE (Nat.le_refl _)⟩
theorem l2Hex_a (A : AH) (hro : ro ≤ A.size) (c : UInt8) :
 ACalls Tryd.prog ro X 174 [.int .u8 c.toNat] A (fun r A' => r = .ret (Sl.mk false A.size 0 2 2).v ∧ A' = A.new (.cells [.int .u8 (hexB (c.toNat / 16)).toNat, .int .u8 (hexB (c.toNat % 16)).toNat] 1)) := by
 refine ACalls.enterQ (rs := [.tmp 2]) Tryd.func174 rfl (by kernel_rfl) rfl ?_
 have c256 := c.toNat_lt
 have hq := @hexIx Tryd.prog 9 (by simp only [ty9])
 have q1 := hq .u8 (n := c.toNat / 16) (by omega)
 have q2 := hq .u8 (n := c.toNat % 16) (by omega)
 have q1' : aIndex Tryd.prog 9 (.string ⟨#[48, 49, 50, 51, 52, 53, 54, 55, 56, 57, 97, 98, 99, 100, 101, 102]⟩) (.int .u8 ((c.toNat : Int) / 16)) = some (.int .u8 (hexB (c.toNat / 16)).toNat) := q1
 have q2' : aIndex Tryd.prog 9 (.string ⟨#[48, 49, 50, 51, 52, 53, 54, 55, 56, 57, 97, 98, 99, 100, 101, 102]⟩) (.int .u8 ((c.toNat : Int) % 16)) = some (.int .u8 (hexB (c.toNat % 16)).toNat) := q2
 simp (maxSteps := 2000000) (disch := first | omega | (simp only [AH.zN, AH.zP] <;> omega) | fail) only [amR Tryd.prog ro X, amS, seval, reduceCtorEq, ty5, ty9, ty69]
 refine Wp.runG [] (by kernel_rfl) (.inr (by intro v e A h; simp only [amK, amQ, thenQ, blockQ, endQ, reduceCtorEq, false_and, exists_false] at h)) ?_
 simp (maxSteps := 2000000) (disch := first | omega | (simp only [AH.zN, AH.zP] <;> omega) | fail) only [amR Tryd.prog ro X, amS, seval, reduceCtorEq, ty5, ty9, ty69, q1', q2', q2]
theorem l2Quote_a (A : AH) (hro : ro ≤ A.size) (s : ByteArray) (hs : s.size < 1073741824) :
 ACalls Tryd.prog ro X 117 [.string s] A (fun r A' => r = .ret (.string (quoteS s)) ∧ Ext A A') := by
 refine ACalls.enterQ (rs := [.tmp 2]) Tryd.func117 rfl (by kernel_rfl) rfl ?_
 simp (maxSteps := 2000000) (disch := first | omega | (simp only [AH.zN, AH.zP] <;> omega) | fail) only [amR Tryd.prog ro X, amS, seval, reduceCtorEq, ty3, ty5, ty9, ty69]
 generalize hB : A.new _ = B
 have zB : B.size = A.size + 1 := by rw [← hB]; rfl
 have gB : B.get A.size = .cells [.int .u8 34] 1 := by rw [← hB]; exact AH.gNs _ _
 have hEB : Ext A B := by rw [← hB]; exact Ext.new _ _
 clear hB
 refine Wp.loopC (fun k e A' => Ext A A' ∧ e 0 = .string s ∧ ∃ i : Nat, i ≤ s.size ∧ k = s.size - i ∧ e 4 = .int .i64 i ∧ ∃ u, e 3 = u.v ∧ AM.Acc A.size A' u (34 :: qL ((ls s).take i)) [] ∧ A.size ≤ A'.size ∧ (u.nl = true ∨ u.b < A'.size)) (s.size - 0) ?_ ?_
 ·simp (maxSteps := 2000000) (disch := first | omega | (simp only [AH.zN, AH.zP] <;> omega) | fail) only [amV, amH, amQ, amL, amN Tryd.prog, amS, seval, reduceCtorEq, ty3, ty5, ty9, ty69]
  exact ⟨hEB, 0, by omega, rfl, rfl, _, rfl, .own (cs := [.int .u8 34]) (Nat.le_refl _) (by omega) (by simp) rfl (.inr ⟨rfl, by decide⟩) gB (Reps.one ⟨rfl, rfl⟩), by omega, .inr (by show A.size < B.size; omega)⟩
 ·rintro k e A' ⟨hE, e0, i, hi, rfl, e4, u, e3, hacc, hz, hub⟩
  have hll : (ls s).length = s.size := by show s.data.toList.length = s.data.size; simp
  simp (maxSteps := 2000000) (disch := first | omega | (simp only [AH.zN, AH.zP] <;> omega) | fail) only [amR Tryd.prog ro X, amS, seval, reduceCtorEq, ty3, ty5, ty9, ty69, e0, e4]
  refine CondB.split (fun h => ?_) (fun h => ?_)
  ·have hil : i < s.size := by simp at h; omega
   have hli : i < (ls s).length := by omega
   have hcl := hacc.len
   have hql := qL_len ((ls s).take i)
   rw [List.length_take] at hql
   simp only [List.length_cons] at hcl
   obtain ⟨c, hc⟩ : ∃ c, c = bget s i := ⟨_, rfl⟩
   have hcg : (ls s)[i] = c := by rw [hc]; exact bget_ls s i hil
   have c256 := c.toNat_lt
   by_cases hp : plainB c
   ·obtain ⟨p1, p2, p3, p4⟩ := id hp
    have k1 : (32 : Int) ≤ c.toNat := by omega
    have k2 : (c.toNat : Int) ≤ 126 := by omega
    have k3 : ¬ (c.toNat : Int) = 34 := by omega
    have k4 : ¬ (c.toNat : Int) = 92 := by omega
    obtain ⟨u', H', hap, hs', hg, hz5, _⟩ := hacc.lit (P := Tryd.prog) (ro := ro) (t := 69) (n := 1) (vs := [.int .u8 c.toNat]) (xs := [c]) (by omega) (by simp only [ty69]; rfl) rfl (Reps.one ⟨rfl, rfl⟩) (.inr (by simp)) (by simp only [List.length_cons]; omega) (by omega)
    rw [show Dat.w UInt8 = 1 from rfl] at hap
    obtain ⟨_, _, y3⟩ := hs'.lt (by simp)
    simp (maxSteps := 2000000) (disch := first | omega | (simp only [AH.zN, AH.zP] <;> omega) | fail) only [amR Tryd.prog ro X, amS, seval, reduceCtorEq, ty3, ty5, ty9, ty69, e0, e3, e4, ← hc, k1, k2, k3, k4, hap]
    refine ⟨s.size - (i + 1), by omega, hg.ext hE (Nat.le_refl _), i + 1, by omega, rfl, by simp, u', rfl, ?_, by omega, .inr y3⟩
    rw [qL_take_succ hli, hcg, show qB c = [c] from if_pos hp]
    simpa using hs'
   ·have hcase : (¬ (32 : Int) ≤ c.toNat) ∨ ((32 : Int) ≤ c.toNat ∧ ¬ (c.toNat : Int) ≤ 126) ∨ ((32 : Int) ≤ c.toNat ∧ (c.toNat : Int) ≤ 126 ∧ (c.toNat : Int) = 34) ∨ ((32 : Int) ≤ c.toNat ∧ (c.toNat : Int) ≤ 126 ∧ ¬ (c.toNat : Int) = 34 ∧ (c.toNat : Int) = 92) := by
     unfold plainB at hp; omega
    obtain ⟨u1, H1, hap, hs1, hg, hz5, _⟩ := hacc.lit (P := Tryd.prog) (ro := ro) (t := 69) (n := 1) (vs := [.int .u8 92]) (xs := [92]) (by omega) (by simp only [ty69]; rfl) rfl (Reps.one ⟨rfl, rfl⟩) (.inr (by simp)) (by simp only [List.length_cons]; omega) (by omega)
    rw [show Dat.w UInt8 = 1 from rfl] at hap
    obtain ⟨_, _, y1⟩ := hs1.lt (by simp)
    have hE1 := hg.ext hE (Nat.le_refl _)
    obtain ⟨u2, H2, hap2, hs2, hg2, hz6, _⟩ := hs1.lit (P := Tryd.prog) (ro := ro) (t := 69) (n := 2) (vs := [.int .u8 (hexB (c.toNat / 16)).toNat, .int .u8 (hexB (c.toNat % 16)).toNat]) (xs := [hexB (c.toNat / 16), hexB (c.toNat % 16)]) (by omega) (by simp only [ty69]; rfl) rfl (.cons (c := [.int .u8 (hexB (c.toNat / 16)).toNat]) (F := []) ⟨rfl, rfl⟩ (Reps.one ⟨rfl, rfl⟩)) (.inr (by simp)) (by simp only [List.length_cons, List.length_append, List.length_nil]; omega) (by omega)
    rw [show Dat.w UInt8 = 1 from rfl] at hap2
    obtain ⟨_, _, y2⟩ := hs2.lt (by simp)
    have fin : ∃ k, k < s.size - i ∧ Ext A H2 ∧ ∃ i_1 : Nat, i_1 ≤ s.size ∧ k = s.size - i_1 ∧ Value.int .i64 ((i : Int) + 1) = .int .i64 i_1 ∧ ∃ u : Sl, u2.v = u.v ∧ AM.Acc A.size H2 u (34 :: qL ((ls s).take i_1)) [] ∧ A.size ≤ H2.size ∧ (u.nl = true ∨ u.b < H2.size) := by
     refine ⟨s.size - (i + 1), by omega, hg2.ext hE1 (Nat.le_refl _), i + 1, by omega, rfl, by simp, u2, rfl, ?_, by omega, .inr y2⟩
     rw [qL_take_succ hli, hcg, show qB c = [92, hexB (c.toNat / 16), hexB (c.toNat % 16)] from if_neg hp]
     simpa using hs2
    rcases hcase with k1 | ⟨k1, k2⟩ | ⟨k1, k2, k3⟩ | ⟨k1, k2, k3, k4⟩
    ·simp (maxSteps := 2000000) (disch := first | omega | (simp only [AH.zN, AH.zP] <;> omega) | fail) only [amR Tryd.prog ro X, amS, seval, reduceCtorEq, ty3, ty5, ty9, ty69, e0, e3, e4, ← hc, k1]
     refine Wp.runG [] (by kernel_rfl) (.inr (by intro v e A h; simp only [amK, amQ, thenQ, blockQ, endQ, reduceCtorEq, false_and, exists_false] at h)) ?_
     simp (maxSteps := 2000000) (disch := first | omega | (simp only [AH.zN, AH.zP] <;> omega) | fail) only [amR Tryd.prog ro X, amS, seval, reduceCtorEq, ty3, ty5, ty9, ty69, e0, e3, e4, ← hc, hap]
     refine (l2Hex_a H1 (by omega) c).mono ?_
     rintro r A5 ⟨rfl, rfl⟩
     simp (maxSteps := 2000000) (disch := first | omega | (simp only [AH.zN, AH.zP] <;> omega) | fail) only [amR Tryd.prog ro X, amS, seval, reduceCtorEq, ty3, ty5, ty9, ty69, e0, e3, e4, ← hc, hap2]
     exact fin
    ·simp (maxSteps := 2000000) (disch := first | omega | (simp only [AH.zN, AH.zP] <;> omega) | fail) only [amR Tryd.prog ro X, amS, seval, reduceCtorEq, ty3, ty5, ty9, ty69, e0, e3, e4, ← hc, k1, k2]
     refine Wp.runG [] (by kernel_rfl) (.inr (by intro v e A h; simp only [amK, amQ, thenQ, blockQ, endQ, reduceCtorEq, false_and, exists_false] at h)) ?_
     simp (maxSteps := 2000000) (disch := first | omega | (simp only [AH.zN, AH.zP] <;> omega) | fail) only [amR Tryd.prog ro X, amS, seval, reduceCtorEq, ty3, ty5, ty9, ty69, e0, e3, e4, ← hc, hap]
     refine (l2Hex_a H1 (by omega) c).mono ?_
     rintro r A5 ⟨rfl, rfl⟩
     simp (maxSteps := 2000000) (disch := first | omega | (simp only [AH.zN, AH.zP] <;> omega) | fail) only [amR Tryd.prog ro X, amS, seval, reduceCtorEq, ty3, ty5, ty9, ty69, e0, e3, e4, ← hc, hap2]
     exact fin
    ·have hx := l2Hex_a (ro := ro) (X := X) H1 (by omega) c
     simp (maxSteps := 2000000) (disch := first | omega | (simp only [AH.zN, AH.zP] <;> omega) | fail) only [amR Tryd.prog ro X, amS, seval, reduceCtorEq, ty3, ty5, ty9, ty69, e0, e3, e4, ← hc, k1, k2, k3]
     rw [k3] at hx
     refine Wp.runG [] (by kernel_rfl) (.inr (by intro v e A h; simp only [amK, amQ, thenQ, blockQ, endQ, reduceCtorEq, false_and, exists_false] at h)) ?_
     simp (maxSteps := 2000000) (disch := first | omega | (simp only [AH.zN, AH.zP] <;> omega) | fail) only [amR Tryd.prog ro X, amS, seval, reduceCtorEq, ty3, ty5, ty9, ty69, e0, e3, e4, ← hc, k3, hap]
     refine hx.mono ?_
     rintro r A5 ⟨rfl, rfl⟩
     simp (maxSteps := 2000000) (disch := first | omega | (simp only [AH.zN, AH.zP] <;> omega) | fail) only [amR Tryd.prog ro X, amS, seval, reduceCtorEq, ty3, ty5, ty9, ty69, e0, e3, e4, ← hc, hap2]
     exact fin
    ·have hx := l2Hex_a (ro := ro) (X := X) H1 (by omega) c
     simp (maxSteps := 2000000) (disch := first | omega | (simp only [AH.zN, AH.zP] <;> omega) | fail) only [amR Tryd.prog ro X, amS, seval, reduceCtorEq, ty3, ty5, ty9, ty69, e0, e3, e4, ← hc, k1, k2, k3, k4]
     rw [k4] at hx
     refine Wp.runG [] (by kernel_rfl) (.inr (by intro v e A h; simp only [amK, amQ, thenQ, blockQ, endQ, reduceCtorEq, false_and, exists_false] at h)) ?_
     simp (maxSteps := 2000000) (disch := first | omega | (simp only [AH.zN, AH.zP] <;> omega) | fail) only [amR Tryd.prog ro X, amS, seval, reduceCtorEq, ty3, ty5, ty9, ty69, e0, e3, e4, ← hc, k4, hap]
     refine hx.mono ?_
     rintro r A5 ⟨rfl, rfl⟩
     simp (maxSteps := 2000000) (disch := first | omega | (simp only [AH.zN, AH.zP] <;> omega) | fail) only [amR Tryd.prog ro X, amS, seval, reduceCtorEq, ty3, ty5, ty9, ty69, e0, e3, e4, ← hc, hap2]
     exact fin
  ·have hil : i = s.size := by simp at h; omega
   subst hil
   rw [← hll, List.take_length] at hacc
   have hcl := hacc.len
   have hql := qL_len (ls s)
   simp only [List.length_cons] at hcl
   obtain ⟨u', H', hap, hs', hg, hz5, _⟩ := hacc.lit (P := Tryd.prog) (ro := ro) (t := 69) (n := 1) (vs := [.int .u8 34]) (xs := [34]) (by omega) (by simp only [ty69]; rfl) rfl (Reps.one ⟨rfl, rfl⟩) (.inr (by simp)) (by simp only [List.length_cons]; omega) (by omega)
   rw [show Dat.w UInt8 = 1 from rfl] at hap
   obtain ⟨F, hF, _⟩ := hs'.slr
   simp (maxSteps := 2000000) (disch := first | omega | (simp only [AH.zN, AH.zP] <;> omega) | fail) only [amR Tryd.prog ro X, amS, seval, reduceCtorEq, ty3, ty5, ty9, ty69, e0, e3, hap, hF.toStr]
   exact ⟨rfl, hg.ext hE (Nat.le_refl _)⟩
end Go.Proofs.YtjlbcofopapajaaDoor.Amu.Quote
