import Derived.Test.YtjlbcofopapajaaDoorAmuTy
import Derived.Test.YtjlbcofopapajaaDoorAmRun
import Derived.Test.YtjlbcofopapajaaDoorAmBld
import Derived.Test.YtjlbcofopapajaaDoorAmuProg
import Derived.Test.YtjlbcofopapajaaDoorAmuItoa
import Derived.Test.YtjlbcofopapajaaDoorAmuForm
import Derived.Test.YtjlbcofopapajaaDoorAmuQuote
namespace Go.Proofs.YtjlbcofopapajaaDoor.Amu.Line
open Go Go.AM Go.Proofs
set_option linter.all false
open Ty
variable {ro : Nat} {X : FuncId → List Value → AH → ARes → AH → Prop}
set_option maxRecDepth 10000
theorem insLine_a (A : AH) (hro : ro ≤ A.size) (hT : Tab 0 A) (hP : Pow 1 A) (x : TIns) (h1 : 1 ≤ x.1) (h2 : x.1 ≤ 15) (hx : x.2.1.size ≤ 2000) (h0 : 0 ≤ x.2.2) (hn : x.2.2 ≤ 2000) :
 ACalls Tryd.prog ro X 53 [.agg #[.int .i64 x.1, .string x.2.1, .int .i64 x.2.2]] A (fun r A' => r = .ret (.string (lineS x)) ∧ Ext A A') := by
 obtain ⟨s, c, g1, g2, g3, g4, g5, g6, g7, g8⟩ := hT.at
 obtain ⟨r0, r1, r2, r3, r4⟩ := g8 x.1 (by omega) (by omega)
 have rr : rowK (s.o + x.1.toNat * 4) 4 (A.get s.b) = some [.string (opWord x.1), .int .u8 (opKd x.1).toNat, .int .i64 (opTake x.1), .int .i64 (opPut x.1)] := by rw [g6]; exact r4
 have hw := opWord_le x.1
 have hq := quoteS_size x.2.1
 have hdz := decS_size x.2.2.toNat
 have e32 : (⟨#[32]⟩ : ByteArray).size = 1 := rfl
 have hws : (opWord x.1 ++ ⟨#[32]⟩).size = (opWord x.1).size + 1 := ByteArray.size_append
 have hnn : x.2.2 = ((x.2.2.toNat : Nat) : Int) := by omega
 refine ACalls.enterQ (rs := [.tmp 2]) Tryd.func53 rfl (by kernel_rfl) rfl ?_
 rcases kd_cases x.1 with ⟨k1, k2, k3⟩ | ⟨k1, k2, k3⟩ | ⟨k1, k2, k3⟩ | ⟨k1, k2, k3⟩ <;> rw [k1] at rr
 ·have hk : opKd x.1 = 116 := UInt8.toNat_inj.1 (by show (opKd x.1).toNat = 116; omega)
  simp (maxSteps := 2000000) (disch := first | omega | (simp only [AH.zN, AH.zP] <;> omega) | fail) only [amR Tryd.prog ro X, amS, seval, reduceCtorEq, ty3, ty5, ty9, ty27, ty97, ty188, ty189, g1, g3, g4, rr]
  refine Wp.runG [5] (by kernel_rfl) (.inr (by intro v e A h; simp only [amK, amQ, thenQ, blockQ, endQ, reduceCtorEq, false_and, exists_false] at h)) ?_
  simp (maxSteps := 2000000) (disch := first | omega | (simp only [AH.zN, AH.zP] <;> omega) | fail) only [amR Tryd.prog ro X, amS, seval, reduceCtorEq, ty3, ty5, ty9, ty27, ty97, ty188, ty189]
  refine (Quote.quote_a _ (by first | omega | (simp only [AH.zN, AH.zP] <;> omega)) x.2.1 (by omega)).mono ?_
  rintro r A1 ⟨rfl, hE1⟩
  simp (maxSteps := 2000000) (disch := first | omega | (simp only [AH.zN, AH.zP] <;> omega) | fail) only [amR Tryd.prog ro X, amS, seval, reduceCtorEq, ty3, ty5, ty9, ty27, ty97, ty188, ty189, hws]
  exact ⟨fun b hb => hE1.get b (by first | omega | (simp only [AH.zN, AH.zP] <;> omega)), by unfold lineS; rw [if_pos hk], (by ((repeat' (first | exact Ext.refl _ | assumption | refine Ext.trans ?_ (Ext.new _ _) | refine Ext.put ?_ ?_ _ | refine Ext.trans ?_ (by assumption))) <;> (first | omega | (simp only [AH.zN, AH.zP] <;> omega))))⟩
 ·have hk : opKd x.1 = 110 := UInt8.toNat_inj.1 (by show (opKd x.1).toNat = 110; omega)
  simp (maxSteps := 2000000) (disch := first | omega | (simp only [AH.zN, AH.zP] <;> omega) | fail) only [amR Tryd.prog ro X, amS, seval, reduceCtorEq, ty3, ty5, ty9, ty27, ty97, ty188, ty189, g1, g3, g4, rr]
  refine Wp.runG [5] (by kernel_rfl) (.inr (by intro v e A h; simp only [amK, amQ, thenQ, blockQ, endQ, reduceCtorEq, false_and, exists_false] at h)) ?_
  simp (maxSteps := 2000000) (disch := first | omega | (simp only [AH.zN, AH.zP] <;> omega) | fail) only [amR Tryd.prog ro X, amS, seval, reduceCtorEq, ty3, ty5, ty9, ty27, ty97, ty188, ty189]
  rw [hnn]
  refine (Itoa.Itoa_a _ (by first | omega | (simp only [AH.zN, AH.zP] <;> omega)) (hP.ext (by ((repeat' (first | exact Ext.refl _ | assumption | refine Ext.trans ?_ (Ext.new _ _) | refine Ext.put ?_ ?_ _ | refine Ext.trans ?_ (by assumption))) <;> (first | omega | (simp only [AH.zN, AH.zP] <;> omega))))) x.2.2.toNat (by omega)).mono ?_
  rintro r A1 ⟨rfl, hE1⟩
  simp (maxSteps := 2000000) (disch := first | omega | (simp only [AH.zN, AH.zP] <;> omega) | fail) only [amR Tryd.prog ro X, amS, seval, reduceCtorEq, ty3, ty5, ty9, ty27, ty97, ty188, ty189, hws]
  exact ⟨fun b hb => hE1.get b (by first | omega | (simp only [AH.zN, AH.zP] <;> omega)), by unfold lineS; rw [if_neg (by rw [hk]; decide), if_neg (by rw [hk]; decide)], (by ((repeat' (first | exact Ext.refl _ | assumption | refine Ext.trans ?_ (Ext.new _ _) | refine Ext.put ?_ ?_ _ | refine Ext.trans ?_ (by assumption))) <;> (first | omega | (simp only [AH.zN, AH.zP] <;> omega))))⟩
 ·have hk : opKd x.1 = 106 := UInt8.toNat_inj.1 (by show (opKd x.1).toNat = 106; omega)
  simp (maxSteps := 2000000) (disch := first | omega | (simp only [AH.zN, AH.zP] <;> omega) | fail) only [amR Tryd.prog ro X, amS, seval, reduceCtorEq, ty3, ty5, ty9, ty27, ty97, ty188, ty189, g1, g3, g4, rr]
  refine Wp.runG [5] (by kernel_rfl) (.inr (by intro v e A h; simp only [amK, amQ, thenQ, blockQ, endQ, reduceCtorEq, false_and, exists_false] at h)) ?_
  simp (maxSteps := 2000000) (disch := first | omega | (simp only [AH.zN, AH.zP] <;> omega) | fail) only [amR Tryd.prog ro X, amS, seval, reduceCtorEq, ty3, ty5, ty9, ty27, ty97, ty188, ty189]
  rw [hnn]
  refine (Itoa.Itoa_a _ (by first | omega | (simp only [AH.zN, AH.zP] <;> omega)) (hP.ext (by ((repeat' (first | exact Ext.refl _ | assumption | refine Ext.trans ?_ (Ext.new _ _) | refine Ext.put ?_ ?_ _ | refine Ext.trans ?_ (by assumption))) <;> (first | omega | (simp only [AH.zN, AH.zP] <;> omega))))) x.2.2.toNat (by omega)).mono ?_
  rintro r A1 ⟨rfl, hE1⟩
  simp (maxSteps := 2000000) (disch := first | omega | (simp only [AH.zN, AH.zP] <;> omega) | fail) only [amR Tryd.prog ro X, amS, seval, reduceCtorEq, ty3, ty5, ty9, ty27, ty97, ty188, ty189, hws]
  exact ⟨fun b hb => hE1.get b (by first | omega | (simp only [AH.zN, AH.zP] <;> omega)), by unfold lineS; rw [if_neg (by rw [hk]; decide), if_neg (by rw [hk]; decide)], (by ((repeat' (first | exact Ext.refl _ | assumption | refine Ext.trans ?_ (Ext.new _ _) | refine Ext.put ?_ ?_ _ | refine Ext.trans ?_ (by assumption))) <;> (first | omega | (simp only [AH.zN, AH.zP] <;> omega))))⟩
 ·have hk : opKd x.1 = 0 := UInt8.toNat_inj.1 (by show (opKd x.1).toNat = 0; omega)
  simp (maxSteps := 2000000) (disch := first | omega | (simp only [AH.zN, AH.zP] <;> omega) | fail) only [amR Tryd.prog ro X, amS, seval, reduceCtorEq, ty3, ty5, ty9, ty27, ty97, ty188, ty189, g1, g3, g4, rr]
  exact ⟨by unfold lineS; rw [if_neg (by rw [hk]; decide), if_pos hk], (by ((repeat' (first | exact Ext.refl _ | assumption | refine Ext.trans ?_ (Ext.new _ _) | refine Ext.put ?_ ?_ _ | refine Ext.trans ?_ (by assumption))) <;> (first | omega | (simp only [AH.zN, AH.zP] <;> omega))))⟩
theorem l2Line_a (A : AH) (hro : ro ≤ A.size) (x : TIns) (h1 : 1 ≤ x.1) (h2 : x.1 ≤ 15) (hx : x.2.1.size ≤ 2000) (h0 : 0 ≤ x.2.2) (hn : x.2.2 ≤ 2000) :
 ACalls Tryd.prog ro X 50 [.agg #[.int .i64 x.1, .string x.2.1, .int .i64 x.2.2]] A (fun r A' => r = .ret (.string (lineS x)) ∧ Ext A A') := by
 have hw := opWord_le x.1
 have hq := quoteS_size x.2.1
 have hdz := decS_size x.2.2.toNat
 have e32 : (⟨#[32]⟩ : ByteArray).size = 1 := rfl
 have hws : (opWord x.1 ++ ⟨#[32]⟩).size = (opWord x.1).size + 1 := ByteArray.size_append
 have hnn : x.2.2 = ((x.2.2.toNat : Nat) : Int) := by omega
 refine ACalls.enterQ (rs := [.tmp 2]) Tryd.func50 rfl (by kernel_rfl) rfl ?_
 simp (maxSteps := 2000000) (disch := first | omega | (simp only [AH.zN, AH.zP] <;> omega) | fail) only [amR Tryd.prog ro X, amS, seval, reduceCtorEq, ty3, ty9, ty27, ty97]
 refine (Prog.l2Word_a _ x.1).mono ?_
 rintro r A1 ⟨rfl, rfl⟩
 rcases kd_cases x.1 with ⟨k1, k2, k3⟩ | ⟨k1, k2, k3⟩ | ⟨k1, k2, k3⟩ | ⟨k1, k2, k3⟩
 ·have hk : opKd x.1 = 116 := UInt8.toNat_inj.1 (by show (opKd x.1).toNat = 116; omega)
  simp (maxSteps := 2000000) (disch := first | omega | (simp only [AH.zN, AH.zP] <;> omega) | fail) only [amR Tryd.prog ro X, amS, seval, reduceCtorEq, ty3, ty9, ty27, ty97, k3]
  refine (Quote.l2Quote_a _ (by first | omega | (simp only [AH.zN, AH.zP] <;> omega)) x.2.1 (by omega)).mono ?_
  rintro r A1 ⟨rfl, hE1⟩
  simp (maxSteps := 2000000) (disch := first | omega | (simp only [AH.zN, AH.zP] <;> omega) | fail) only [amR Tryd.prog ro X, amS, seval, reduceCtorEq, ty3, ty9, ty27, ty97, hws]
  exact ⟨by unfold lineS; rw [if_pos hk], (by ((repeat' (first | exact Ext.refl _ | assumption | refine Ext.trans ?_ (Ext.new _ _) | refine Ext.put ?_ ?_ _ | refine Ext.trans ?_ (by assumption))) <;> (first | omega | (simp only [AH.zN, AH.zP] <;> omega))))⟩
 ·have hk : opKd x.1 = 110 := UInt8.toNat_inj.1 (by show (opKd x.1).toNat = 110; omega)
  simp (maxSteps := 2000000) (disch := first | omega | (simp only [AH.zN, AH.zP] <;> omega) | fail) only [amR Tryd.prog ro X, amS, seval, reduceCtorEq, ty3, ty9, ty27, ty97, k3]
  rw [hnn]
  refine (Form.l2Dec_a x.2.2.toNat _ (by first | omega | (simp only [AH.zN, AH.zP] <;> omega)) (by omega)).mono ?_
  rintro r A1 ⟨rfl, hE1⟩
  simp (maxSteps := 2000000) (disch := first | omega | (simp only [AH.zN, AH.zP] <;> omega) | fail) only [amR Tryd.prog ro X, amS, seval, reduceCtorEq, ty3, ty9, ty27, ty97, hws]
  exact ⟨by unfold lineS; rw [if_neg (by rw [hk]; decide), if_neg (by rw [hk]; decide)], (by ((repeat' (first | exact Ext.refl _ | assumption | refine Ext.trans ?_ (Ext.new _ _) | refine Ext.put ?_ ?_ _ | refine Ext.trans ?_ (by assumption))) <;> (first | omega | (simp only [AH.zN, AH.zP] <;> omega))))⟩
 ·have hk : opKd x.1 = 106 := UInt8.toNat_inj.1 (by show (opKd x.1).toNat = 106; omega)
  simp (maxSteps := 2000000) (disch := first | omega | (simp only [AH.zN, AH.zP] <;> omega) | fail) only [amR Tryd.prog ro X, amS, seval, reduceCtorEq, ty3, ty9, ty27, ty97, k3]
  rw [hnn]
  refine (Form.l2Dec_a x.2.2.toNat _ (by first | omega | (simp only [AH.zN, AH.zP] <;> omega)) (by omega)).mono ?_
  rintro r A1 ⟨rfl, hE1⟩
  simp (maxSteps := 2000000) (disch := first | omega | (simp only [AH.zN, AH.zP] <;> omega) | fail) only [amR Tryd.prog ro X, amS, seval, reduceCtorEq, ty3, ty9, ty27, ty97, hws]
  exact ⟨by unfold lineS; rw [if_neg (by rw [hk]; decide), if_neg (by rw [hk]; decide)], (by ((repeat' (first | exact Ext.refl _ | assumption | refine Ext.trans ?_ (Ext.new _ _) | refine Ext.put ?_ ?_ _ | refine Ext.trans ?_ (by assumption))) <;> (first | omega | (simp only [AH.zN, AH.zP] <;> omega))))⟩
 ·have hk : opKd x.1 = 0 := UInt8.toNat_inj.1 (by show (opKd x.1).toNat = 0; omega)
  simp (maxSteps := 2000000) (disch := first | omega | (simp only [AH.zN, AH.zP] <;> omega) | fail) only [amR Tryd.prog ro X, amS, seval, reduceCtorEq, ty3, ty9, ty27, ty97, k3]
  exact ⟨by unfold lineS; rw [if_neg (by rw [hk]; decide), if_pos hk], (by ((repeat' (first | exact Ext.refl _ | assumption | refine Ext.trans ?_ (Ext.new _ _) | refine Ext.put ?_ ?_ _ | refine Ext.trans ?_ (by assumption))) <;> (first | omega | (simp only [AH.zN, AH.zP] <;> omega))))⟩
end Go.Proofs.YtjlbcofopapajaaDoor.Amu.Line
