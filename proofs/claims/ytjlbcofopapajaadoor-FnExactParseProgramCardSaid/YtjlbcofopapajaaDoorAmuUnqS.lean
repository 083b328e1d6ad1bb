import Derived.Test.YtjlbcofopapajaaDoorAmuTy
import Derived.Test.YtjlbcofopapajaaDoorAmRun
import Derived.Test.YtjlbcofopapajaaDoorAmPrs
import Derived.Test.YtjlbcofopapajaaDoorAmuSplit
import Derived.Test.YtjlbcofopapajaaDoorAmuUnq
namespace Go.Proofs.YtjlbcofopapajaaDoor.Amu.UnqS
open Go Go.AM Go.Proofs
set_option linter.all false
open Ty
variable {ro : Nat} {X : FuncId → List Value → AH → ARes → AH → Prop}
set_option maxRecDepth 10000
theorem hexOf_a (A : AH) (c : UInt8) : ACalls Tryd.prog ro X 201 [.int .u8 c.toNat] A (fun r A' => r = .ret (.int .i64 (hexV c)) ∧ A' = A) := by
 refine ACalls.enterQ (rs := [.tmp 2]) Tryd.func201 rfl (by kernel_rfl) rfl ?_
 have c256 := c.toNat_lt
 rcases hexV_three c with ⟨h1, h2, h3⟩ | ⟨h1, h2, h3⟩ | ⟨h1, h2, h3⟩
 ·have k1 : (48 : Int) ≤ c.toNat := by omega
  have k2 : (c.toNat : Int) ≤ 57 := by omega
  rw [h3]
  simp (maxSteps := 2000000) (disch := first | omega | (simp only [AH.zN, AH.zP] <;> omega) | fail) only [amR Tryd.prog ro X, amS, seval, reduceCtorEq, ty3, ty5, ty33, ty69, k1, k2]
 ·have k1 : (48 : Int) ≤ c.toNat := by omega
  have k2 : ¬ (c.toNat : Int) ≤ 57 := by omega
  have k3 : (97 : Int) ≤ c.toNat := by omega
  have k4 : (c.toNat : Int) ≤ 102 := by omega
  rw [h3]
  simp (maxSteps := 2000000) (disch := first | omega | (simp only [AH.zN, AH.zP] <;> omega) | fail) only [amR Tryd.prog ro X, amS, seval, reduceCtorEq, ty3, ty5, ty33, ty69, k1, k2, k3, k4]
 ·rw [h3]
  by_cases k1 : (48 : Int) ≤ c.toNat
  ·have k2 : ¬ (c.toNat : Int) ≤ 57 := by omega
   by_cases k3 : (97 : Int) ≤ c.toNat
   ·have k4 : ¬ (c.toNat : Int) ≤ 102 := by omega
    simp (maxSteps := 2000000) (disch := first | omega | (simp only [AH.zN, AH.zP] <;> omega) | fail) only [amR Tryd.prog ro X, amS, seval, reduceCtorEq, ty3, ty5, ty33, ty69, k1, k2, k3, k4]
   ·simp (maxSteps := 2000000) (disch := first | omega | (simp only [AH.zN, AH.zP] <;> omega) | fail) only [amR Tryd.prog ro X, amS, seval, reduceCtorEq, ty3, ty5, ty33, ty69, k1, k2, k3]
  ·have k3 : ¬ (97 : Int) ≤ c.toNat := by omega
   simp (maxSteps := 2000000) (disch := first | omega | (simp only [AH.zN, AH.zP] <;> omega) | fail) only [amR Tryd.prog ro X, amS, seval, reduceCtorEq, ty3, ty5, ty33, ty69, k1, k3]
theorem number_a (A : AH) (s : ByteArray) (hs : s.size < 1073741824) : ACalls Tryd.prog ro X 147 [.string s] A (fun r A' => ∃ n : Int, r = .ret (.int .i64 n) ∧ A' = A ∧ ∀ k : Nat, k ≤ 2000 → s = decS k → n = k) := by
 refine ACalls.enterQ (rs := [.tmp 2]) Tryd.func147 rfl (by kernel_rfl) rfl ?_
 simp (maxSteps := 2000000) (disch := first | omega | (simp only [AH.zN, AH.zP] <;> omega) | fail) only [amR Tryd.prog ro X, amS, seval, reduceCtorEq, ty3, ty5, ty9, ty33, ty69]
 refine Wp.loopC (fun k e A' => A' = A ∧ e 0 = .string s ∧ ∃ i : Nat, i ≤ s.size ∧ i ≤ 6 ∧ k = s.size - i ∧ e 4 = .int .i64 i ∧ e 3 = .int .i64 (valD ((ls s).take i))) (s.size - 0) ?_ ?_
 ·simp (maxSteps := 2000000) (disch := first | omega | (simp only [AH.zN, AH.zP] <;> omega) | fail) only [amV, amH, amQ, amL, amN Tryd.prog, amS, seval, reduceCtorEq, ty3, ty5, ty9, ty33, ty69]
  exact ⟨0, by omega, by omega, rfl, rfl, by simp [valD]⟩
 ·rintro k e A' ⟨rfl, e0, i, hi, hi6, rfl, e4, e3⟩
  have hv := valD_small (l := (ls s).take i) (by rw [List.length_take]; omega)
  by_cases h1 : (i : Int) < s.size
  ·by_cases h2 : (i : Int) < 6
   ·have hli : i < (ls s).length := by rw [ls_length]; omega
    have hc := valD_take_succ hli
    rw [bget_ls s i (by omega)] at hc
    have c256 := (bget s i).toNat_lt
    simp (maxSteps := 2000000) (disch := first | omega | (simp only [AH.zN, AH.zP] <;> omega) | fail) only [amR Tryd.prog ro X, amS, seval, reduceCtorEq, ty3, ty5, ty9, ty33, ty69, e0, e3, e4, h1, h2]
    exact ⟨s.size - (i + 1), by omega, i + 1, by omega, by omega, rfl, by simp, by rw [hc]⟩
   ·simp (maxSteps := 2000000) (disch := first | omega | (simp only [AH.zN, AH.zP] <;> omega) | fail) only [amR Tryd.prog ro X, amS, seval, reduceCtorEq, ty3, ty5, ty9, ty33, ty69, e0, e3, e4, h1, h2]
    refine ⟨_, rfl, fun k hk hsk => ?_⟩
    have := dec_len hk
    rw [← hsk] at this
    omega
  ·simp (maxSteps := 2000000) (disch := first | omega | (simp only [AH.zN, AH.zP] <;> omega) | fail) only [amR Tryd.prog ro X, amS, seval, reduceCtorEq, ty3, ty5, ty9, ty33, ty69, e0, e3, e4, h1]
   refine ⟨_, rfl, fun k hk hsk => ?_⟩
   have : i = s.size := by omega
   rw [this, ls_take_all, hsk, dec_val hk]
theorem cut_a (A : AH) (hro : ro ≤ A.size) (s : ByteArray) (hs : s.size < 1073741824) : ACalls Tryd.prog ro X 92 [.string s] A (fun r A' => ∃ u F, r = .ret (Sl.v u) ∧ SlR A' u (splitS s) F ∧ Ext A A') := by
 refine ACalls.enterQ (rs := [.tmp 2]) Tryd.func92 rfl (by kernel_rfl) rfl ?_
 simp (maxSteps := 2000000) (disch := first | omega | (simp only [AH.zN, AH.zP] <;> omega) | fail) only [amR Tryd.prog ro X, amS, seval, reduceCtorEq, ty3, ty5, ty9, ty33, ty69]
 generalize hB : A.new _ = B
 have zB : B.size = A.size + 1 := by rw [← hB]; rfl
 have hEB : Ext A B := by rw [← hB]; exact Ext.new _ _
 clear hB
 have hbig : ∀ x : ByteArray, x.size ≤ s.size → x.size < BIG := fun x hx => by unfold BIG; omega
 have hall := splitS_len s
 refine Wp.loopC (fun k e A' => Ext A A' ∧ e 0 = .string s ∧ ∃ i : Nat, i ≤ s.size ∧ k = s.size - i ∧ e 5 = .int .i64 i ∧ ∃ f : Nat, f ≤ i ∧ e 4 = .int .i64 f ∧ ∃ u l, e 3 = Sl.v u ∧ AM.Acc A.size A' u l [] ∧ (∃ t, t.size ≤ s.size ∧ ls t = (ls s).drop f ∧ splitS s = l ++ splitS t) ∧ 10 ∉ ((ls s).drop f).take (i - f) ∧ l.length ≤ i) (s.size - 0) ?_ ?_
 ·simp (maxSteps := 2000000) (disch := first | omega | (simp only [AH.zN, AH.zP] <;> omega) | fail) only [amV, amH, amQ, amL, amN Tryd.prog, amS, seval, reduceCtorEq, ty3, ty5, ty9, ty33, ty69]
  exact ⟨hEB, 0, by omega, rfl, rfl, 0, by omega, rfl, _, [], rfl, .empty A.size 0, ⟨s, by omega, by simp, by simp⟩, by simp, by simp⟩
 ·rintro k e A' ⟨hE, e0, i, hi, rfl, e5, f, hf, e4, u, l, e3, hacc, ⟨t, htz, ht, hsp⟩, hno, hll⟩
  have zE := hE.size
  have hl2 : (splitS s).length = l.length + (splitS t).length := by rw [hsp, List.length_append]
  have hpos := splitS_ne t
  simp (maxSteps := 2000000) (disch := first | omega | (simp only [AH.zN, AH.zP] <;> omega) | fail) only [amR Tryd.prog ro X, amS, seval, reduceCtorEq, ty3, ty5, ty9, ty33, ty69, e0, e5]
  refine CondB.split (fun h => ?_) (fun h => ?_)
  ·have hil : i < s.size := by simp at h; omega
   have hli : i < (ls s).length := by rw [ls_length]; omega
   have hsplit : (ls s).drop f = ((ls s).drop f).take (i - f) ++ bget s i :: (ls s).drop (i + 1) := by
    have e1 : (ls s).drop i = bget s i :: (ls s).drop (i + 1) := by rw [List.drop_eq_getElem_cons hli, bget_ls s i hil]
    conv => lhs; rw [← List.take_append_drop (i - f) ((ls s).drop f)]
    rw [List.drop_drop, show f + (i - f) = i by omega, e1]
   by_cases hc : ((bget s i).toNat : Int) = 10
   ·have hc10 : bget s i = 10 := UInt8.toNat_inj.1 (by have : (10 : UInt8).toNat = 10 := rfl; omega)
    have x1 : s.extract f i = bs (((ls s).drop f).take (i - f)) := bs_extract s f i
    rw [hc10] at hsplit
    have hcut : splitS t = bs (((ls s).drop f).take (i - f)) :: splitS (bs ((ls s).drop (i + 1))) :=
     splitS_cut (by rw [ls_bs]; exact hno) (by rw [ls_bs, ls_bs]; exact ht.trans hsplit)
    have hpz : (bs (((ls s).drop f).take (i - f))).size ≤ s.size := by rw [bs_size, List.length_take, List.length_drop, ls_length]; omega
    obtain ⟨u', H', hap, hs', hg, hz5, _⟩ := hacc.lit (P := Tryd.prog) (ro := ro) (t := 33) (n := 1) (vs := [.string (bs (((ls s).drop f).take (i - f)))]) (xs := [bs (((ls s).drop f).take (i - f))]) (by omega) (by simp only [ty33]; rfl) rfl (Reps.one ⟨rfl, rfl, hbig _ hpz⟩) (.inr (by simp)) (by omega) (by omega)
    rw [show Dat.w ByteArray = 1 from rfl] at hap
    simp (maxSteps := 2000000) (disch := first | omega | (simp only [AH.zN, AH.zP] <;> omega) | fail) only [amR Tryd.prog ro X, amS, seval, reduceCtorEq, ty3, ty5, ty9, ty33, ty69, e0, e3, e4, e5, hc, x1, hap]
    refine ⟨s.size - (i + 1), by omega, hg.ext hE (Nat.le_refl _), i + 1, by omega, rfl, by simp, i + 1, by omega, by simp, u', l ++ [bs (((ls s).drop f).take (i - f))], rfl, by simpa using hs', ⟨bs ((ls s).drop (i + 1)), by rw [bs_size, List.length_drop, ls_length]; omega, ls_bs _, ?_⟩, by simp, by simp; omega⟩
    rw [hsp, hcut]
    simp
   ·simp (maxSteps := 2000000) (disch := first | omega | (simp only [AH.zN, AH.zP] <;> omega) | fail) only [amR Tryd.prog ro X, amS, seval, reduceCtorEq, ty3, ty5, ty9, ty33, ty69, e0, e3, e4, e5, hc]
    refine ⟨s.size - (i + 1), by omega, hE, i + 1, by omega, rfl, by simp, f, by omega, rfl, u, l, rfl, hacc, ⟨t, htz, ht, hsp⟩, ?_, by omega⟩
    rw [show i + 1 - f = (i - f) + 1 by omega, List.take_add_one, List.getElem?_drop, show f + (i - f) = i by omega, List.getElem?_eq_getElem hli, bget_ls s i hil]
    simp only [Option.toList_some, List.mem_append, List.mem_singleton, not_or]
    exact ⟨hno, fun e => hc (by rw [← e]; rfl)⟩
  ·have hil : i = s.size := by simp at h; omega
   subst hil
   have hno2 : 10 ∉ ls t := by
    rw [ht]
    have : ((ls s).drop f).take (s.size - f) = (ls s).drop f := List.take_of_length_le (by rw [List.length_drop, ls_length]; omega)
    rwa [this] at hno
   have x1 : s.extract f s.size = t := by
    rw [bs_extract, ← bs_ls t, ht, List.take_of_length_le (by rw [List.length_drop, ls_length]; omega)]
   obtain ⟨u', H', hap, hs', hg, hz5, _⟩ := hacc.lit (P := Tryd.prog) (ro := ro) (t := 33) (n := 1) (vs := [.string t]) (xs := [t]) (by omega) (by simp only [ty33]; rfl) rfl (Reps.one ⟨rfl, rfl, hbig _ htz⟩) (.inr (by simp)) (by omega) (by omega)
   rw [show Dat.w ByteArray = 1 from rfl] at hap
   simp (maxSteps := 2000000) (disch := first | omega | (simp only [AH.zN, AH.zP] <;> omega) | fail) only [amR Tryd.prog ro X, amS, seval, reduceCtorEq, ty3, ty5, ty9, ty33, ty69, e0, e3, e4, x1, hap]
   obtain ⟨F, hF, _⟩ := hs'.slr
   rw [splitS_one hno2] at hsp
   exact ⟨u', F, rfl, by rw [hsp]; simpa using hF, hg.ext hE (Nat.le_refl _)⟩
theorem unquote_a (A : AH) (hro : ro ≤ A.size) (s : ByteArray) (hs : s.size < 1073741824) :
 ACalls Tryd.prog ro X 146 [.string s] A (fun r A' => ∃ t, r = .ret (.string t) ∧ Ext A A' ∧ t.size ≤ s.size + 1 ∧ ∀ u, s = quoteS u → t = u) := by
 refine ACalls.enterQ (rs := [.tmp 2]) Tryd.func146 rfl (by kernel_rfl) rfl ?_
 simp (maxSteps := 2000000) (disch := first | omega | (simp only [AH.zN, AH.zP] <;> omega) | fail) only [amR Tryd.prog ro X, amS, seval, reduceCtorEq, ty3, ty5, ty9, ty33, ty69]
 generalize hB : A.new _ = B
 have zB : B.size = A.size + 1 := by rw [← hB]; rfl
 have hEB : Ext A B := by rw [← hB]; exact Ext.new _ _
 clear hB
 refine Wp.loopC (fun k e A' => Ext A A' ∧ e 0 = .string s ∧ ∃ i : Nat, k = s.size + 1 - i ∧ i ≤ s.size + 1 ∧ e 4 = .int .i64 i ∧ ∃ u l, e 3 = Sl.v u ∧ AM.Acc A.size A' u l [] ∧ l.length ≤ i ∧ (∀ t, s = quoteS t → ∃ j, j ≤ (ls t).length ∧ l = (ls t).take j ∧ i = 1 + (qL ((ls t).take j)).length)) (s.size + 1 - 1) ?_ ?_
 ·simp (maxSteps := 2000000) (disch := first | omega | (simp only [AH.zN, AH.zP] <;> omega) | fail) only [amV, amH, amQ, amL, amN Tryd.prog, amS, seval, reduceCtorEq, ty3, ty5, ty9, ty33, ty69]
  exact ⟨hEB, 1, by omega, by omega, rfl, _, [], rfl, .empty A.size 0, by simp, fun t ht => ⟨0, by omega, by simp, by simp [qL]⟩⟩
 ·rintro k e A' ⟨hE, e0, i, rfl, hi, e4, u, l, e3, hacc, hll, hq⟩
  have zE := hE.size
  simp (maxSteps := 2000000) (disch := first | omega | (simp only [AH.zN, AH.zP] <;> omega) | fail) only [amR Tryd.prog ro X, amS, seval, reduceCtorEq, ty3, ty5, ty9, ty33, ty69, e0, e4]
  have i1 : ((i : Int) + 1).toNat = i + 1 := by omega
  have i2 : ((i : Int) + 2).toNat = i + 2 := by omega
  refine CondB.split (fun h => ?_) (fun h => ?_)
  ·have hil : i < s.size - 1 := by simp at h; omega
   have hstep : ∀ t, s = quoteS t → ∃ j, ∃ hj : j < (ls t).length, l = (ls t).take j ∧ ((bget s i ≠ 92 ∧ bget s i = (ls t)[j] ∧ 1 + (qL ((ls t).take (j + 1))).length = i + 1) ∨
    (bget s i = 92 ∧ i + 2 < s.size - 1 ∧ 0 ≤ hexV (bget s (i + 1)) ∧ 0 ≤ hexV (bget s (i + 2)) ∧ 16 * hexV (bget s (i + 1)) + hexV (bget s (i + 2)) = (ls t)[j].toNat ∧ 1 + (qL ((ls t).take (j + 1))).length = i + 3)) := by
    intro t ht
    obtain ⟨j, hj, h1, h2⟩ := hq t ht
    have hj2 : j < (ls t).length := by
     rcases Nat.lt_or_ge j (ls t).length with h3 | h3
     ·exact h3
     ·have : j = (ls t).length := by omega
      subst this
      rw [quote_end, ← ht] at h2
      omega
    have hs := quote_step hj2
    simp only [← h2, ← ht] at hs
    refine ⟨j, hj2, h1, hs.imp (fun ⟨a1, a2, a3, a4⟩ => ⟨a1, a2, a4⟩) fun ⟨a1, a2, a3, a4, a5, a6⟩ => ⟨a1, a2, a3, a4, a5, a6⟩⟩
   obtain ⟨u', H', hap, hs', hg, hz5, _⟩ := hacc.lit (P := Tryd.prog) (ro := ro) (t := 69) (n := 1) (vs := [.int .u8 (bget s i).toNat]) (xs := [bget s i]) (by omega) (by simp only [ty69]; rfl) rfl (Reps.one ⟨rfl, rfl⟩) (.inr (by simp)) (by omega) (by omega)
   rw [show Dat.w UInt8 = 1 from rfl] at hap
   have fin : (¬ (bget s i = 92 ∧ i + 3 < s.size ∧ 0 ≤ hexV (bget s (i + 1)) ∧ 0 ≤ hexV (bget s (i + 2)))) → ∃ k, k < s.size + 1 - i ∧ Ext A H' ∧ ∃ i_1 : Nat, k = s.size + 1 - i_1 ∧ i_1 ≤ s.size + 1 ∧ Value.int .i64 ((i : Int) + 1) = .int .i64 i_1 ∧ ∃ u l, u'.v = Sl.v u ∧ AM.Acc A.size H' u l [] ∧ l.length ≤ i_1 ∧ (∀ t, s = quoteS t → ∃ j, j ≤ (ls t).length ∧ l = (ls t).take j ∧ i_1 = 1 + (qL ((ls t).take j)).length) := fun hn => by
    refine ⟨s.size + 1 - (i + 1), by omega, hg.ext hE (Nat.le_refl _), i + 1, rfl, by omega, by simp, u', l ++ [bget s i], rfl, by simpa using hs', by simp; omega, fun t ht => ?_⟩
    obtain ⟨j, hj, h0, ⟨_, h1, h2⟩ | ⟨h1, h2, h3, h4, _⟩⟩ := hstep t ht
    ·exact ⟨j + 1, by omega, by rw [List.take_succ_eq_append_getElem hj, h0, h1], h2.symm⟩
    ·exact absurd ⟨h1, by omega, h3, h4⟩ hn
   by_cases hc : ((bget s i).toNat : Int) = 92
   ·have hc9 : bget s i = 92 := UInt8.toNat_inj.1 (by have : (92 : UInt8).toNat = 92 := rfl; omega)
    by_cases he : (i : Int) + 3 < s.size
    ·simp (maxSteps := 2000000) (disch := first | omega | (simp only [AH.zN, AH.zP] <;> omega) | fail) only [amR Tryd.prog ro X, amS, seval, reduceCtorEq, ty3, ty5, ty9, ty33, ty69, e0, e3, e4, hc, he, i1]
     refine (hexOf_a A' (bget s (i + 1))).mono ?_
     rintro r A2 ⟨rfl, rfl⟩
     have r1 := hexV_rng (bget s (i + 1))
     have r2 := hexV_rng (bget s (i + 2))
     by_cases n1 : 0 ≤ hexV (bget s (i + 1))
     ·simp (maxSteps := 2000000) (disch := first | omega | (simp only [AH.zN, AH.zP] <;> omega) | fail) only [amR Tryd.prog ro X, amS, seval, reduceCtorEq, ty3, ty5, ty9, ty33, ty69, e0, e3, e4, n1, i2]
      refine (hexOf_a A2 (bget s (i + 2))).mono ?_
      rintro r A2 ⟨rfl, rfl⟩
      by_cases n2 : 0 ≤ hexV (bget s (i + 2))
      ·simp (maxSteps := 2000000) (disch := first | omega | (simp only [AH.zN, AH.zP] <;> omega) | fail) only [amR Tryd.prog ro X, amS, seval, reduceCtorEq, ty3, ty5, ty9, ty33, ty69, e0, e3, e4, n2]
       refine Wp.runG [5, 11] (by kernel_rfl) (.inr (by intro v e A h; simp only [amK, amQ, thenQ, blockQ, endQ, reduceCtorEq, false_and, exists_false] at h)) ?_
       simp (maxSteps := 2000000) (disch := first | omega | (simp only [AH.zN, AH.zP] <;> omega) | fail) only [amR Tryd.prog ro X, amS, seval, reduceCtorEq, ty3, ty5, ty9, ty33, ty69, e0, e3, e4, i1]
       refine (hexOf_a A2 (bget s (i + 1))).mono ?_
       rintro r A3 ⟨rfl, rfl⟩
       simp (maxSteps := 2000000) (disch := first | omega | (simp only [AH.zN, AH.zP] <;> omega) | fail) only [amR Tryd.prog ro X, amS, seval, reduceCtorEq, ty3, ty5, ty9, ty33, ty69, e0, e3, e4, i2]
       refine ⟨fun b hb => trivial, ?_⟩
       refine (hexOf_a A3 (bget s (i + 2))).mono ?_
       rintro r A4 ⟨rfl, rfl⟩
       obtain ⟨z, hz⟩ : ∃ z : UInt8, (z.toNat : Int) = 16 * hexV (bget s (i + 1)) + hexV (bget s (i + 2)) := by
        refine ⟨UInt8.ofNat (16 * hexV (bget s (i + 1)) + hexV (bget s (i + 2))).toNat, ?_⟩
        simp only [UInt8.toNat_ofNat']
        omega
       have hz' := hz.symm
       obtain ⟨u2, H2, hap2, hs2, hg2, hz52, _⟩ := hacc.lit (P := Tryd.prog) (ro := ro) (t := 69) (n := 1) (vs := [.int .u8 z.toNat]) (xs := [z]) (by omega) (by simp only [ty69]; rfl) rfl (Reps.one ⟨rfl, rfl⟩) (.inr (by simp)) (by omega) (by omega)
       rw [show Dat.w UInt8 = 1 from rfl] at hap2
       simp (maxSteps := 2000000) (disch := first | omega | (simp only [AH.zN, AH.zP] <;> omega) | fail) only [amR Tryd.prog ro X, amS, seval, reduceCtorEq, ty3, ty5, ty9, ty33, ty69, e0, e3, e4, i2, hz', hap2]
       refine ⟨fun b hb => trivial, s.size + 1 - (i + 3), by omega, hg2.ext hE (Nat.le_refl _), i + 3, rfl, by omega, by simp <;> omega, u2, l ++ [z], rfl, by simpa using hs2, by simp; omega, fun t ht => ?_⟩
       obtain ⟨j, hj, h0, h1 | ⟨_, _, _, _, h1, h2⟩⟩ := hstep t ht
       ·exact absurd hc9 h1.1
       ·refine ⟨j + 1, by omega, ?_, h2.symm⟩
        rw [List.take_succ_eq_append_getElem hj, h0]
        congr 2
        exact UInt8.toNat_inj.1 (by omega)
      ·rw [hc] at hap
       simp (maxSteps := 2000000) (disch := first | omega | (simp only [AH.zN, AH.zP] <;> omega) | fail) only [amR Tryd.prog ro X, amS, seval, reduceCtorEq, ty3, ty5, ty9, ty33, ty69, e0, e3, e4, n2, hc, hap]
       exact fin fun h => n2 h.2.2.2
     ·rw [hc] at hap
      simp (maxSteps := 2000000) (disch := first | omega | (simp only [AH.zN, AH.zP] <;> omega) | fail) only [amR Tryd.prog ro X, amS, seval, reduceCtorEq, ty3, ty5, ty9, ty33, ty69, e0, e3, e4, n1, hc, hap]
      exact fin fun h => n1 h.2.2.1
    ·rw [hc] at hap
     simp (maxSteps := 2000000) (disch := first | omega | (simp only [AH.zN, AH.zP] <;> omega) | fail) only [amR Tryd.prog ro X, amS, seval, reduceCtorEq, ty3, ty5, ty9, ty33, ty69, e0, e3, e4, hc, he, hap]
     exact fin fun h => by omega
   ·have hfin := fin (fun h => hc (by rw [h.1]; rfl))
    clear fin hstep hq
    simp (maxSteps := 2000000) (disch := first | omega | (simp only [AH.zN, AH.zP] <;> omega) | fail) only [amR Tryd.prog ro X, amS, seval, reduceCtorEq, ty3, ty5, ty9, ty33, ty69, e0, e3, e4, hc, hap]
    exact hfin
  ·have hil : s.size - 1 ≤ i := by simp at h; omega
   obtain ⟨F, hF, _⟩ := hacc.slr
   simp (maxSteps := 2000000) (disch := first | omega | (simp only [AH.zN, AH.zP] <;> omega) | fail) only [amR Tryd.prog ro X, amS, seval, reduceCtorEq, ty3, ty5, ty9, ty33, ty69, e0, e3, hF.toStr]
   refine ⟨_, rfl, hE, by rw [bs_size]; omega, fun t ht => ?_⟩
   obtain ⟨j, hj, h0, h1⟩ := hq t ht
   rcases Nat.lt_or_ge j (ls t).length with h3 | h3
   ·have := (quote_mid h3 0 (by unfold qB; split <;> simp)).1
    rw [← ht] at this
    omega
   ·have : j = (ls t).length := by omega
    rw [h0, this, List.take_length, bs_ls]
end Go.Proofs.YtjlbcofopapajaaDoor.Amu.UnqS
