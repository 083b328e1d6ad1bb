import Derived.Test.YtjlbcofopapajaaDoorAmuTy
import Derived.Test.YtjlbcofopapajaaDoorAmRun
import Derived.Test.YtjlbcofopapajaaDoorAmPrs
import Derived.Test.YtjlbcofopapajaaDoorAmuQuote
import Derived.Test.YtjlbcofopapajaaDoorAmuSplit
namespace Go.Proofs.YtjlbcofopapajaaDoor.Amu.Unq
open Go Go.AM Go.Proofs
set_option linter.all false
open Ty
variable {ro : Nat} {X : FuncId → List Value → AH → ARes → AH → Prop}
set_option maxRecDepth 10000
theorem unquote_a (hX : Split.PX ro X) (A : AH) (hro : ro ≤ A.size) (s : ByteArray) (hs : s.size < 1073741824) :
 ACalls Tryd.prog ro X 150 [.string s] A (fun r A' => ∃ t b, r = .ret (.tuple #[.string t, .bool b]) ∧ Ext A A' ∧ t.size ≤ s.size ∧ ∀ u, s = quoteS u → b = true ∧ t = u) := by
 refine ACalls.enterQ (rs := [.tmp 2, .tmp 3]) Tryd.func150 rfl (by kernel_rfl) rfl ?_
 have hem : (⟨#[]⟩ : ByteArray).size = 0 := rfl
 by_cases k1 : (s.size : Int) < 2
 ·simp (maxSteps := 2000000) (disch := first | omega | (simp only [AH.zN, AH.zP] <;> omega) | fail) only [amR Tryd.prog ro X, amS, seval, reduceCtorEq, ty3, ty5, ty9, ty69, k1]
  exact ⟨_, _, rfl, Ext.refl _, by rw [hem]; omega, fun u h => by have := quote_size u; rw [← h] at this; omega⟩
 by_cases k2 : ¬ ((bget s 0).toNat : Int) = 34
 ·simp (maxSteps := 2000000) (disch := first | omega | (simp only [AH.zN, AH.zP] <;> omega) | fail) only [amR Tryd.prog ro X, amS, seval, reduceCtorEq, ty3, ty5, ty9, ty69, k1, k2]
  exact ⟨_, _, rfl, Ext.refl _, by rw [hem]; omega, fun u h => by have := quote_0 u; rw [← h] at this; rw [this] at k2; exact absurd rfl k2⟩
 replace k2 := Decidable.not_not.1 k2
 have hsub : ((s.size : Int) - 1).toNat = s.size - 1 := by omega
 by_cases k3 : ¬ ((bget s (s.size - 1)).toNat : Int) = 34
 ·simp (maxSteps := 2000000) (disch := first | omega | (simp only [AH.zN, AH.zP] <;> omega) | fail) only [amR Tryd.prog ro X, amS, seval, reduceCtorEq, ty3, ty5, ty9, ty69, k1, k2, hsub, k3]
  exact ⟨_, _, rfl, Ext.refl _, by rw [hem]; omega, fun u h => by have := quote_last u; rw [← h] at this; rw [this] at k3; exact absurd rfl k3⟩
 replace k3 := Decidable.not_not.1 k3
 simp (maxSteps := 2000000) (disch := first | omega | (simp only [AH.zN, AH.zP] <;> omega) | fail) only [amR Tryd.prog ro X, amS, seval, reduceCtorEq, ty3, ty5, ty9, ty69, k1, k2, hsub, k3]
 refine Wp.loopC (fun k e A' => Ext A A' ∧ e 0 = .string s ∧ ∃ i : Nat, i ≤ s.size ∧ k = s.size - i ∧ e 5 = .int .i64 i ∧ ∃ u l, e 4 = Sl.v u ∧ AM.Acc A.size A' u l [] ∧ l.length ≤ i ∧ (∀ t, s = quoteS t → ∃ j, j ≤ (ls t).length ∧ l = (ls t).take j ∧ i = 1 + (qL ((ls t).take j)).length)) (s.size - 1) ?_ ?_
 ·simp (maxSteps := 2000000) (disch := first | omega | (simp only [AH.zN, AH.zP] <;> omega) | fail) only [amV, amH, amQ, amL, amN Tryd.prog, amS, seval, reduceCtorEq, ty3, ty5, ty9, ty69]
  exact ⟨Ext.refl _, 1, by omega, rfl, rfl, .nil, [], rfl, .nil, by simp, fun t ht => ⟨0, by omega, by simp, by simp [qL]⟩⟩
 ·rintro k e A' ⟨hE, e0, i, hi, rfl, e5, u, l, e4, hacc, hll, hq⟩
  have zE := hE.size
  simp (maxSteps := 2000000) (disch := first | omega | (simp only [AH.zN, AH.zP] <;> omega) | fail) only [amR Tryd.prog ro X, amS, seval, reduceCtorEq, ty3, ty5, ty9, ty69, e0, e5]
  have hxe : ∀ c : UInt8, Lib.indexByte (ls ⟨#[48, 49, 50, 51, 52, 53, 54, 55, 56, 57, 97, 98, 99, 100, 101, 102]⟩) c = hexV c := fun c => rfl
  have i1 : ((i : Int) + 1).toNat = i + 1 := by omega
  have i2 : ((i : Int) + 2).toNat = i + 2 := by omega
  refine CondB.split (fun h => ?_) (fun h => ?_)
  ·have hil : i < s.size - 1 := by simp at h; omega
   have hstep : ∀ t, s = quoteS t → ∃ j, ∃ hj : j < (ls t).length, l = (ls t).take j ∧ ((bget s i ≠ 92 ∧ bget s i = (ls t)[j] ∧ 1 + (qL ((ls t).take (j + 1))).length = i + 1) ∨
    (bget s i = 92 ∧ i + 2 < s.size - 1 ∧ 0 ≤ hexV (bget s (i + 1)) ∧ 0 ≤ hexV (bget s (i + 2)) ∧ 16 * hexV (bget s (i + 1)) + hexV (bget s (i + 2)) = (ls t)[j].toNat ∧ 1 + (qL ((ls t).take (j + 1))).length = i + 3)) := by
    intro t ht
    obtain ⟨j, hj, h1, h2⟩ := hq t ht
    have hj2 : j < (ls t).length := by
     rcases Nat.lt_or_ge j (ls t).length with h3 | h3
     ·exact h3
     ·have : j = (ls t).length := by omega
      subst this
      rw [quote_end, ← ht] at h2
      omega
    have hs := quote_step hj2
    simp only [← h2, ← ht] at hs
    refine ⟨j, hj2, h1, hs.imp (fun ⟨a1, a2, a3, a4⟩ => ⟨a1, a2, a4⟩) fun ⟨a1, a2, a3, a4, a5, a6⟩ => ⟨a1, a2, a3, a4, a5, a6⟩⟩
   by_cases hc : ((bget s i).toNat : Int) = 92
   ·have hc9 : bget s i = 92 := UInt8.toNat_inj.1 (by have : (92 : UInt8).toNat = 92 := rfl; omega)
    by_cases he : (s.size : Int) - 1 ≤ (i : Int) + 2
    ·simp (maxSteps := 2000000) (disch := first | omega | (simp only [AH.zN, AH.zP] <;> omega) | fail) only [amR Tryd.prog ro X, amS, seval, reduceCtorEq, ty3, ty5, ty9, ty69, e0, e4, e5, hc, he]
     refine ⟨_, _, rfl, hE, by rw [hem]; omega, fun u hu => ?_⟩
     obtain ⟨j, hj, _, h1 | h1⟩ := hstep u hu
     ·exact absurd hc9 h1.1
     ·omega
    ·simp (maxSteps := 2000000) (disch := first | omega | (simp only [AH.zN, AH.zP] <;> omega) | fail) only [amR Tryd.prog ro X, amS, seval, reduceCtorEq, ty3, ty5, ty9, ty69, e0, e4, e5, hc, he]
     refine Wp.runG [4, 9] (by kernel_rfl) (.inr (by intro v e A h; simp only [amK, amQ, thenQ, blockQ, endQ, reduceCtorEq, false_and, exists_false] at h)) ?_
     simp (maxSteps := 2000000) (disch := first | omega | (simp only [AH.zN, AH.zP] <;> omega) | fail) only [amR Tryd.prog ro X, amS, seval, reduceCtorEq, ty3, ty5, ty9, ty69, e0, e4, e5, hc, he, i1]
     refine (Split.IndexByte_a hX A' ⟨#[48, 49, 50, 51, 52, 53, 54, 55, 56, 57, 97, 98, 99, 100, 101, 102]⟩ (bget s (i + 1))).mono ?_
     rintro r A2 ⟨rfl, rfl⟩
     rw [hxe]
     simp (maxSteps := 2000000) (disch := first | omega | (simp only [AH.zN, AH.zP] <;> omega) | fail) only [amR Tryd.prog ro X, amS, seval, reduceCtorEq, ty3, ty5, ty9, ty69, e0, e4, e5, i2]
     refine ⟨fun b hb => trivial, ?_⟩
     refine (Split.IndexByte_a hX A2 ⟨#[48, 49, 50, 51, 52, 53, 54, 55, 56, 57, 97, 98, 99, 100, 101, 102]⟩ (bget s (i + 2))).mono ?_
     rintro r A3 ⟨rfl, rfl⟩
     rw [hxe]
     have r1 := hexV_rng (bget s (i + 1))
     have r2 := hexV_rng (bget s (i + 2))
     by_cases n1 : hexV (bget s (i + 1)) < 0
     ·simp (maxSteps := 2000000) (disch := first | omega | (simp only [AH.zN, AH.zP] <;> omega) | fail) only [amR Tryd.prog ro X, amS, seval, reduceCtorEq, ty3, ty5, ty9, ty69, e0, e4, e5, i2, n1]
      refine ⟨fun b hb => trivial, _, _, rfl, hE, by rw [hem]; omega, fun u hu => ?_⟩
      obtain ⟨j, hj, _, h1 | h1⟩ := hstep u hu
      ·exact absurd hc9 h1.1
      ·omega
     by_cases n2 : hexV (bget s (i + 2)) < 0
     ·simp (maxSteps := 2000000) (disch := first | omega | (simp only [AH.zN, AH.zP] <;> omega) | fail) only [amR Tryd.prog ro X, amS, seval, reduceCtorEq, ty3, ty5, ty9, ty69, e0, e4, e5, i2, n1, n2]
      refine ⟨fun b hb => trivial, _, _, rfl, hE, by rw [hem]; omega, fun u hu => ?_⟩
      obtain ⟨j, hj, _, h1 | h1⟩ := hstep u hu
      ·exact absurd hc9 h1.1
      ·omega
     obtain ⟨z, hz⟩ : ∃ z : UInt8, (z.toNat : Int) = 16 * hexV (bget s (i + 1)) + hexV (bget s (i + 2)) := by
      refine ⟨UInt8.ofNat (16 * hexV (bget s (i + 1)) + hexV (bget s (i + 2))).toNat, ?_⟩
      simp only [UInt8.toNat_ofNat']
      omega
     have hz' := hz.symm
     obtain ⟨u', H', hap, hs', hg, hz5, _⟩ := hacc.lit (P := Tryd.prog) (ro := ro) (t := 69) (n := 1) (vs := [.int .u8 z.toNat]) (xs := [z]) (by omega) (by simp only [ty69]; rfl) rfl (Reps.one ⟨rfl, rfl⟩) (.inr (by simp)) (by omega) (by omega)
     rw [show Dat.w UInt8 = 1 from rfl] at hap
     simp (maxSteps := 2000000) (disch := first | omega | (simp only [AH.zN, AH.zP] <;> omega) | fail) only [amR Tryd.prog ro X, amS, seval, reduceCtorEq, ty3, ty5, ty9, ty69, e0, e4, e5, i2, n1, n2, hz', hap]
     refine ⟨fun b hb => trivial, s.size - (i + 3), by omega, hg.ext hE (Nat.le_refl _), i + 3, by omega, rfl, by simp <;> omega, u', l ++ [z], rfl, by simpa using hs', by simp; omega, fun t ht => ?_⟩
     obtain ⟨j, hj, h0, h1 | ⟨_, _, _, _, h1, h2⟩⟩ := hstep t ht
     ·exact absurd hc9 h1.1
     ·refine ⟨j + 1, by omega, ?_, h2.symm⟩
      rw [List.take_succ_eq_append_getElem hj, h0]
      congr 2
      exact UInt8.toNat_inj.1 (by omega)
   ·have hc9 : bget s i ≠ 92 := fun e => hc (by rw [e]; rfl)
    obtain ⟨u', H', hap, hs', hg, hz5, _⟩ := hacc.lit (P := Tryd.prog) (ro := ro) (t := 69) (n := 1) (vs := [.int .u8 (bget s i).toNat]) (xs := [bget s i]) (by omega) (by simp only [ty69]; rfl) rfl (Reps.one ⟨rfl, rfl⟩) (.inr (by simp)) (by omega) (by omega)
    rw [show Dat.w UInt8 = 1 from rfl] at hap
    simp (maxSteps := 2000000) (disch := first | omega | (simp only [AH.zN, AH.zP] <;> omega) | fail) only [amR Tryd.prog ro X, amS, seval, reduceCtorEq, ty3, ty5, ty9, ty69, e0, e4, e5, hc, hap]
    refine ⟨s.size - (i + 1), by omega, hg.ext hE (Nat.le_refl _), i + 1, by omega, rfl, by simp, u', l ++ [bget s i], rfl, by simpa using hs', by simp; omega, fun t ht => ?_⟩
    obtain ⟨j, hj, h0, ⟨_, h1, h2⟩ | h1⟩ := hstep t ht
    ·exact ⟨j + 1, by omega, by rw [List.take_succ_eq_append_getElem hj, h0, h1], h2.symm⟩
    ·exact absurd h1.1 hc9
  ·have hil : s.size - 1 ≤ i := by simp at h; omega
   obtain ⟨F, hF, _⟩ := hacc.slr
   have hfl := hacc.len
   have hbz : (bs l).size = l.length := bs_size l
   simp (maxSteps := 2000000) (disch := first | omega | (simp only [AH.zN, AH.zP] <;> omega) | fail) only [amR Tryd.prog ro X, amS, seval, reduceCtorEq, ty3, ty5, ty9, ty69, e0, e4, hF.toStr]
   refine (Quote.quote_a A' (by omega) (bs l) (by omega)).mono ?_
   rintro r A2 ⟨rfl, hE2⟩
   simp (maxSteps := 2000000) (disch := first | omega | (simp only [AH.zN, AH.zP] <;> omega) | fail) only [amR Tryd.prog ro X, amS, seval, reduceCtorEq, ty3, ty5, ty9, ty69, e0]
   refine ⟨_, _, rfl, hE.trans hE2, by omega, fun t ht => ?_⟩
   obtain ⟨j, hj, h0, h1⟩ := hq t ht
   have hqe := quote_end t
   have hbl : bs l = t := by
    rcases Nat.lt_or_ge j (ls t).length with h3 | h3
    ·have := quote_step h3
     have := (quote_mid h3 0 (by unfold qB; split <;> simp)).1
     rw [← ht] at this
     omega
    ·have : j = (ls t).length := by omega
     rw [h0, this, List.take_length, bs_ls]
   exact ⟨by rw [hbl, ← ht]; simp, hbl⟩
end Go.Proofs.YtjlbcofopapajaaDoor.Amu.Unq
