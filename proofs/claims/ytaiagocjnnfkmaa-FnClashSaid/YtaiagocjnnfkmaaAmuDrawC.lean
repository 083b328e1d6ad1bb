import Derived.Test.YtaiagocjnnfkmaaAmuTy
import Derived.Test.YtaiagocjnnfkmaaAmRun
import Derived.Test.YtaiagocjnnfkmaaAmuDraw1
namespace Go.Proofs.Ytaiagocjnnfkmaa.Amu.DrawC
open Go Go.AM Go.Proofs
set_option linter.unusedVariables false
set_option linter.unusedSimpArgs false
open Ty
variable {ro : Nat} {X : FuncId → List Value → AH → ARes → AH → Prop}
set_option maxRecDepth 10000
theorem ext_x {A A1 A2 : AH} {b : Nat} (h : Ext A A1) (hX : ExtX [b] A1 A2) (hb : A.size ≤ b) : Ext A A2 :=
 ⟨Nat.le_trans h.size hX.size, fun x hx => (hX.get x (Nat.lt_of_lt_of_le hx h.size) (by simp; omega)).trans (h.get x hx)⟩
theorem draw_a (A : AH) (hro : ro ≤ A.size) (s : Sl) (l : List UInt8) (F : List Nat) (h : SlR A s l F) (hl : l.length < 281474976710656) :
 ACalls Try.prog ro X 25 [s.v] A (fun r A' => ∃ (t : Sl) (ts : List ByteArray) (G : List Nat) (w : Int), r = .ret (.tuple #[t.v, .int .i64 w]) ∧ SlR A' t ts G ∧ ts.length ≤ 5001 ∧ 0 ≤ w ∧ w < 10 ∧ Ext A A') := by
 refine ACalls.enterQ (rs := [.tmp 2, .tmp 3]) Try.func25 rfl (by kernel_rfl) rfl ?_
 simp (maxSteps := 2000000) (disch := first | omega | (simp only [AH.zN, AH.zP] <;> omega) | fail) only [amR Try.prog ro X, amS, seval, reduceCtorEq, ty3, ty5, ty9, ty25, ty44]
 refine (Draw1.open_a A hro s l F h hl).mono ?_
 rintro r A1 ⟨rfl, hR1, hE1⟩
 generalize hb0 : A.size = b0 at hR1 hro
 have hbE : A.size ≤ b0 := by omega
 simp (maxSteps := 2000000) (disch := first | omega | (simp only [AH.zN, AH.zP] <;> omega) | fail) only [amR Try.prog ro X, amS, seval, reduceCtorEq, ty3, ty5, ty9, ty25, ty44, hb0]
 refine (Draw1.pick_a A1 b0 0 hR1 (by omega) hro 3 (by omega)).mono ?_
 rintro r A2 ⟨k1, rfl, hk1, hR2, hX2⟩
 have hE2 := ext_x hE1 hX2 hbE
 have d1 : (k1 : Int).tdiv 2 = ((k1 / 2 : Nat) : Int) := rfl
 simp (maxSteps := 2000000) (disch := first | omega | (simp only [AH.zN, AH.zP] <;> omega) | fail) only [amR Try.prog ro X, amS, seval, reduceCtorEq, ty3, ty5, ty9, ty25, ty44, d1]
 refine (Draw1.pick_a A2 b0 1 hR2 (by omega) hro 8 (by omega)).mono ?_
 rintro r A3 ⟨k2, rfl, hk2, hR3, hX3⟩
 have hE3 := ext_x hE2 hX3 hbE
 simp (maxSteps := 2000000) (disch := first | omega | (simp only [AH.zN, AH.zP] <;> omega) | fail) only [amR Try.prog ro X, amS, seval, reduceCtorEq, ty3, ty5, ty9, ty25, ty44]
 refine Go.AM.condCutN (fun e' A' => e' 4 = .pointer (some ⟨b0, 0, none⟩) ∧ (∃ w : Int, e' 5 = .int .i64 w ∧ 0 ≤ w ∧ w < 10) ∧ Draw1.RdV A' b0 3 ∧ Ext A A') ?_ ?_
 ·refine CondB.split (fun h => ?_) (fun h => ?_)
  ·simp (maxSteps := 2000000) (disch := first | omega | (simp only [AH.zN, AH.zP] <;> omega) | fail) only [amR Try.prog ro X, amS, seval, reduceCtorEq, ty3, ty5, ty9, ty25, ty44]
   refine (Draw1.pick_a A3 b0 2 hR3 (by omega) hro 10 (by omega)).mono ?_
   rintro r A4 ⟨k3, rfl, hk3, hR4, hX4⟩
   simp (maxSteps := 2000000) (disch := first | omega | (simp only [AH.zN, AH.zP] <;> omega) | fail) only [amR Try.prog ro X, amS, seval, reduceCtorEq, ty3, ty5, ty9, ty25, ty44]
   exact ⟨⟨_, rfl, by omega, by omega⟩, hR4, ext_x hE3 hX4 hbE⟩
  ·simp (maxSteps := 2000000) (disch := first | omega | (simp only [AH.zN, AH.zP] <;> omega) | fail) only [amR Try.prog ro X, amS, seval, reduceCtorEq, ty3, ty5, ty9, ty25, ty44]
   exact ⟨⟨_, rfl, by omega, by omega⟩, hR3.mono (by omega), hE3⟩
 rintro e A4 ⟨h4, ⟨w, h5, hw⟩, hR4, hE4⟩
 simp (maxSteps := 2000000) (disch := first | omega | (simp only [AH.zN, AH.zP] <;> omega) | fail) only [amR Try.prog ro X, amS, seval, reduceCtorEq, ty3, ty5, ty9, ty25, ty44, h4]
 refine (Draw1.pick_a A4 b0 3 hR4 (by omega) hro 30 (by omega)).mono ?_
 rintro r A5 ⟨n1, rfl, hn1, hR5, hX5⟩
 have hE5 := ext_x hE4 hX5 hbE
 simp (maxSteps := 2000000) (disch := first | omega | (simp only [AH.zN, AH.zP] <;> omega) | fail) only [amR Try.prog ro X, amS, seval, reduceCtorEq, ty3, ty5, ty9, ty25, ty44, h4]
 refine (Draw1.pick_a A5 b0 4 hR5 (by omega) hro 4 (by omega)).mono ?_
 rintro r A6 ⟨k4, rfl, hk4, hR6, hX6⟩
 have hE6 := ext_x hE5 hX6 hbE
 simp (maxSteps := 2000000) (disch := first | omega | (simp only [AH.zN, AH.zP] <;> omega) | fail) only [amR Try.prog ro X, amS, seval, reduceCtorEq, ty3, ty5, ty9, ty25, ty44]
 refine Go.AM.condCutN (fun e' A' => e' 4 = .pointer (some ⟨b0, 0, none⟩) ∧ e' 5 = .int .i64 w ∧ (∃ n : Nat, e' 6 = .int .i64 n ∧ n ≤ 69) ∧ A' = A6) ?_ ?_
 ·refine CondB.split (fun h => ?_) (fun h => ?_)
  ·simp (maxSteps := 2000000) (disch := first | omega | (simp only [AH.zN, AH.zP] <;> omega) | fail) only [amR Try.prog ro X, amS, seval, reduceCtorEq, ty3, ty5, ty9, ty25, ty44, h4, h5]
   exact ⟨n1 + 40, rfl, by omega⟩
  ·simp (maxSteps := 2000000) (disch := first | omega | (simp only [AH.zN, AH.zP] <;> omega) | fail) only [amR Try.prog ro X, amS, seval, reduceCtorEq, ty3, ty5, ty9, ty25, ty44, h4, h5]
   exact ⟨n1, rfl, by omega⟩
 rintro e H ⟨h4, h5, ⟨n, h6, hn⟩, rfl⟩
 have hbH := hR6.lt
 simp (maxSteps := 2000000) (disch := first | omega | (simp only [AH.zN, AH.zP] <;> omega) | fail) only [amR Try.prog ro X, amS, seval, reduceCtorEq, ty3, ty5, ty9, ty25, ty44]
 refine Wp.loopC (fun m e A' => e 4 = .pointer (some ⟨b0, 0, none⟩) ∧ e 5 = .int .i64 w ∧ e 6 = .int .i64 n ∧ Ext A A' ∧ ∃ i : Nat, i ≤ n ∧ m = n - i ∧ e 8 = .int .i64 i ∧ Draw1.RdV A' b0 (5 + 8 * i) ∧ ∃ (s : Sl) (l : List ByteArray), e 7 = s.v ∧ l.length = i ∧ Acc (b0 + 1) A' s l [] ∧ b0 + 1 ≤ A'.size) (n - 0) ?_ ?_
 ·simp (maxSteps := 2000000) (disch := first | omega | (simp only [AH.zN, AH.zP] <;> omega) | fail) only [amV, amH, amQ, amL, amN Try.prog, amS, seval, reduceCtorEq, ty3, ty5, ty9, ty25, ty44]
  exact ⟨h4, h5, h6, hE6.trans (Ext.new _ _), 0, by omega, rfl, rfl, (hR6.ext (Ext.new _ _)).mono (by omega), _, [], rfl, rfl, .empty _ _, by omega⟩
 ·rintro m e A' ⟨h4, h5, h6, hE, i, hi, rfl, h8, hR, s2, l2, h7, hl2, hs2, hz⟩
  simp (maxSteps := 2000000) (disch := first | omega | (simp only [AH.zN, AH.zP] <;> omega) | fail) only [amR Try.prog ro X, amS, seval, reduceCtorEq, ty3, ty5, ty9, ty25, ty44, h6, h8]
  refine CondB.split (fun h => ?_) (fun h => ?_)
  ·have hin : i < n := by simp at h; omega
   simp (maxSteps := 2000000) (disch := first | omega | (simp only [AH.zN, AH.zP] <;> omega) | fail) only [amR Try.prog ro X, amS, seval, reduceCtorEq, ty3, ty5, ty9, ty25, ty44, h4]
   refine (Draw1.text_a A' b0 (5 + 8 * i) hR (by omega) hro).mono ?_
   rintro r B1 ⟨t, rfl, ht, hS1, hY1⟩
   have hEB1 := ext_x hE hY1 hbE
   simp (maxSteps := 2000000) (disch := first | omega | (simp only [AH.zN, AH.zP] <;> omega) | fail) only [amR Try.prog ro X, amS, seval, reduceCtorEq, ty3, ty5, ty9, ty25, ty44, h4]
   refine (Draw1.pick_a B1 b0 (5 + 8 * i + 7) hS1 (by omega) hro 3 (by omega)).mono ?_
   rintro r B2 ⟨c, rfl, hc, hS2, hY2⟩
   have hEB2 := ext_x hEB1 hY2 hbE
   have hs3 := Draw1.extx_acc (Draw1.extx_acc hs2 hY1 (Nat.lt_succ_self _)) hY2 (Nat.lt_succ_self _)
   have zB1 := hY1.size
   have zB2 := hY2.size
   simp (maxSteps := 2000000) (disch := first | omega | (simp only [AH.zN, AH.zP] <;> omega) | fail) only [amR Try.prog ro X, amS, seval, reduceCtorEq, ty3, ty5, ty9, ty25, ty44]
   refine Go.AM.condCutN (fun e' A' => e' 4 = .pointer (some ⟨b0, 0, none⟩) ∧ e' 5 = .int .i64 w ∧ e' 6 = .int .i64 n ∧ e' 7 = s2.v ∧ e' 8 = .int .i64 i ∧ (∃ t' : ByteArray, e' 9 = .string t' ∧ t'.size ≤ 8) ∧ Ext B2 A') ?_ ?_
   ·refine CondB.split (fun h => ?_) (fun h => ?_)
    ·simp (maxSteps := 2000000) (disch := first | omega | (simp only [AH.zN, AH.zP] <;> omega) | fail) only [amR Try.prog ro X, amS, seval, reduceCtorEq, ty3, ty5, ty9, ty25, ty44, h4, h5, h6, h7, h8]
     exact ⟨⟨_, rfl, by rw [ByteArray.size_append]; show t.size + 2 ≤ 8; omega⟩, Ext.new _ _⟩
    ·simp (maxSteps := 2000000) (disch := first | omega | (simp only [AH.zN, AH.zP] <;> omega) | fail) only [amR Try.prog ro X, amS, seval, reduceCtorEq, ty3, ty5, ty9, ty25, ty44, h4, h5, h6, h7, h8]
     exact ⟨⟨_, rfl, by omega⟩, Ext.refl _⟩
   rintro e B3 ⟨h4, h5, h6, h7, h8, ⟨t', h9, ht'⟩, hEB3⟩
   have zB3 := hEB3.size
   obtain ⟨s', B4, hap, hs', hg, hz5, _⟩ := (hs3.ext hEB3).lit (P := Try.prog) (ro := ro) (t := 25) (n := 1) (vs := [.string t']) (xs := [t']) (by omega) (by simp only [ty25]; rfl) rfl (Reps.one ⟨rfl, rfl, by unfold BIG; omega⟩) (.inr (by simp)) (by omega) (by omega)
   rw [show Dat.w ByteArray = 1 from rfl] at hap
   simp (maxSteps := 2000000) (disch := first | omega | (simp only [AH.zN, AH.zP] <;> omega) | fail) only [amR Try.prog ro X, amS, seval, reduceCtorEq, ty3, ty5, ty9, ty25, ty44, h4, h5, h6, h7, h8, h9, hap]
   exact ⟨n - (i + 1), by omega, hg.ext (hEB2.trans hEB3) (by omega), i + 1, by omega, rfl, rfl, ((hS2.ext hEB3).grow hg (by omega)).mono (by omega), s', l2 ++ [t'], rfl, by simp [hl2], hs', by omega⟩
  ·have hin : i = n := by simp at h; omega
   simp (maxSteps := 2000000) (disch := first | omega | (simp only [AH.zN, AH.zP] <;> omega) | fail) only [amR Try.prog ro X, amS, seval, reduceCtorEq, ty3, ty5, ty9, ty25, ty44, h4]
   refine (Draw1.pick_a A' b0 (5 + 8 * i) hR (by omega) hro 90 (by omega)).mono ?_
   rintro r B1 ⟨c, rfl, hc, hS1, hY1⟩
   have hEB1 := ext_x hE hY1 hbE
   have hs3 := Draw1.extx_acc hs2 hY1 (Nat.lt_succ_self _)
   have zB1 := hY1.size
   simp (maxSteps := 2000000) (disch := first | omega | (simp only [AH.zN, AH.zP] <;> omega) | fail) only [amR Try.prog ro X, amS, seval, reduceCtorEq, ty3, ty5, ty9, ty25, ty44]
   refine Go.AM.condCutN (fun e' A' => e' 5 = .int .i64 w ∧ Ext A A' ∧ ∃ (s : Sl) (l : List ByteArray), e' 7 = s.v ∧ l.length ≤ 5001 ∧ Acc (b0 + 1) A' s l []) ?_ ?_
   ·refine CondB.split (fun h => ?_) (fun h => ?_)
    ·simp (maxSteps := 2000000) (disch := first | omega | (simp only [AH.zN, AH.zP] <;> omega) | fail) only [amR Try.prog ro X, amS, seval, reduceCtorEq, ty3, ty5, ty9, ty25, ty44]
     refine Wp.loopC (fun m e A' => e 4 = .pointer (some ⟨b0, 0, none⟩) ∧ e 5 = .int .i64 w ∧ Ext A A' ∧ ∃ i : Nat, i ≤ 5001 ∧ m = 5001 - i ∧ Draw1.RdV A' b0 (1000 + i) ∧ ∃ (s : Sl) (l : List ByteArray), e 7 = s.v ∧ l.length = i ∧ Acc (b0 + 1) A' s l [] ∧ b0 + 1 ≤ A'.size) (5001 - i) ?_ ?_
     ·simp (maxSteps := 2000000) (disch := first | omega | (simp only [AH.zN, AH.zP] <;> omega) | fail) only [amV, amH, amQ, amL, amN Try.prog, amS, seval, reduceCtorEq, ty3, ty5, ty9, ty25, ty44, h4, h5, h7]
      exact ⟨hEB1, i, by omega, rfl, hS1.mono (by omega), s2, l2, rfl, hl2, hs3, by omega⟩
     ·rintro m e C1 ⟨h4, h5, hE, i, hi, rfl, hR, s2, l2, h7, hl2, hs2, hz⟩
      have hlen := hs2.len
      simp (maxSteps := 2000000) (disch := first | omega | (simp only [AH.zN, AH.zP] <;> omega) | fail) only [amR Try.prog ro X, amS, seval, reduceCtorEq, ty3, ty5, ty9, ty25, ty44, h4, h7, hlen]
      refine (Draw1.pick_a C1 b0 (1000 + i) hR (by omega) hro 2 (by omega)).mono ?_
      rintro r C2 ⟨c, rfl, hc, hS1, hY1⟩
      have hEC2 := ext_x hE hY1 hbE
      have hs3 := Draw1.extx_acc hs2 hY1 (Nat.lt_succ_self _)
      have zC2 := hY1.size
      simp (maxSteps := 2000000) (disch := first | omega | (simp only [AH.zN, AH.zP] <;> omega) | fail) only [amR Try.prog ro X, amS, seval, reduceCtorEq, ty3, ty5, ty9, ty25, ty44]
      refine CondB.split (fun h => ?_) (fun h => ?_)
      ·have hin : i < 5001 := by simp at h; omega
       obtain ⟨s', C3, hap, hs', hg, hz5, _⟩ := hs3.lit (P := Try.prog) (ro := ro) (t := 25) (n := 1) (vs := [.string ⟨#[]⟩]) (xs := [⟨#[]⟩]) (by omega) (by simp only [ty25]; rfl) rfl (Reps.one ⟨rfl, rfl, by unfold BIG; decide⟩) (.inr (by simp)) (by omega) (by omega)
       rw [show Dat.w ByteArray = 1 from rfl] at hap
       simp (maxSteps := 2000000) (disch := first | omega | (simp only [AH.zN, AH.zP] <;> omega) | fail) only [amR Try.prog ro X, amS, seval, reduceCtorEq, ty3, ty5, ty9, ty25, ty44, h4, h5, h7, hap]
       exact ⟨5001 - (i + 1), by omega, hg.ext hEC2 (by omega), i + 1, by omega, rfl, (hS1.grow hg (by omega)).mono (by omega), s', l2 ++ [⟨#[]⟩], rfl, by simp [hl2], hs', by omega⟩
      ·simp (maxSteps := 2000000) (disch := first | omega | (simp only [AH.zN, AH.zP] <;> omega) | fail) only [amR Try.prog ro X, amS, seval, reduceCtorEq, ty3, ty5, ty9, ty25, ty44, h5, h7]
       exact ⟨hEC2, s2, l2, rfl, by omega, hs3⟩
    ·simp (maxSteps := 2000000) (disch := first | omega | (simp only [AH.zN, AH.zP] <;> omega) | fail) only [amR Try.prog ro X, amS, seval, reduceCtorEq, ty3, ty5, ty9, ty25, ty44]
     exact ⟨h5, hEB1, s2, l2, h7, by omega, hs3⟩
   rintro e B2 ⟨h5, hE2, s3, l3, h7, hl3, hs3⟩
   obtain ⟨G, hG, _⟩ := hs3.slr
   simp (maxSteps := 2000000) (disch := first | omega | (simp only [AH.zN, AH.zP] <;> omega) | fail) only [amR Try.prog ro X, amS, seval, reduceCtorEq, ty3, ty5, ty9, ty25, ty44, h5, h7]
   exact ⟨s3, l3, G, w, rfl, hG, hl3, hw.1, hw.2, hE2⟩
end Go.Proofs.Ytaiagocjnnfkmaa.Amu.DrawC
