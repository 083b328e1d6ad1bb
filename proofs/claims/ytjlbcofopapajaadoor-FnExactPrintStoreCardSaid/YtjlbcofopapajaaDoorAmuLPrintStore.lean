import Derived.Test.YtjlbcofopapajaaDoorAmuTy
import Derived.Test.YtjlbcofopapajaaDoorAmuPsto
import Derived.Test.YtjlbcofopapajaaDoorAmuPstS
import Derived.Test.YtjlbcofopapajaaDoorAmuLawA
import Derived.Test.YtjlbcofopapajaaDoorAmuBldS
namespace Go.Proofs.YtjlbcofopapajaaDoor.Amu.LPrintStore
open Go Go.AM Go.Proofs
set_option linter.all false
open Ty
variable {ro : Nat} {X : FuncId → List Value → AH → ARes → AH → Prop}
set_option maxRecDepth 10000
theorem law_a (A : AH) (hro : ro ≤ A.size) (hT : Tab 0 A) (hP : Pow 1 A) (hXB : ∀ f args A r A', BldX 120 54 101 5 ro f args A r A' → X f args A r A') (x0 : TStore) (c0 : List Value) (F0 : List Nat) (h0 : Dat.rep A x0 c0 F0) (b0 : Mk.bd x0) :
 ACalls Tryd.prog ro X 4 [.agg c0.toArray] A (fun r _ => r = .ret (.bool true)) := by
 refine ACalls.enterQ (rs := [.tmp 2]) Tryd.func4 rfl (by kernel_rfl) rfl ?_
 have hh0 := h0
 obtain ⟨w0k1, w0k2, _, _, rfl, _, _, _⟩ := rep_Store.1 hh0
 simp (maxSteps := 2000000) (disch := first | omega | (simp only [AH.zN, AH.zP] <;> omega) | fail) only [amR Tryd.prog ro X, amS, seval, reduceCtorEq, ty3, ty4, ty9, ty33, ty34, ty36, ty39, ty41]
 refine (Law.sz_Store _ (by first | omega | (simp only [AH.zN, AH.zP] <;> omega)) x0 _ _ (Dat.ext h0 (by ((repeat' (first | exact Ext.refl _ | assumption | refine Ext.trans ?_ (Ext.new _ _) | refine Ext.put ?_ ?_ _ | refine Ext.trans ?_ (by assumption))) <;> (first | omega | (simp only [AH.zN, AH.zP] <;> omega))))) b0 (1048576) (by omega)).mono ?_
 rintro r B1 ⟨rfl, hE1⟩
 have v1 := hE1.size
 try simp only [AH.zN, AH.zP] at v1
 by_cases z0 : 1048576 - (Mk.sz x0 : Nat) < (0 : Int)
 ·rw [szR_neg z0]
  simp (maxSteps := 2000000) (disch := first | omega | (simp only [AH.zN, AH.zP] <;> omega) | fail) only [amR Tryd.prog ro X, amS, seval, reduceCtorEq, ty3, ty4, ty9, ty33, ty34, ty36, ty39, ty41, hE1.get]
 rw [szR_pos z0]
 simp (maxSteps := 2000000) (disch := first | omega | (simp only [AH.zN, AH.zP] <;> omega) | fail) only [amR Tryd.prog ro X, amS, seval, reduceCtorEq, ty3, ty4, ty9, ty33, ty34, ty36, ty39, ty41, hE1.get, z0]
 refine (Law.to_Store _ (by first | omega | (simp only [AH.zN, AH.zP] <;> omega)) x0 _ _ (Dat.ext h0 (by ((repeat' (first | exact Ext.refl _ | assumption | refine Ext.trans ?_ (Ext.new _ _) | refine Ext.put ?_ ?_ _ | refine Ext.trans ?_ (by assumption))) <;> (first | omega | (simp only [AH.zN, AH.zP] <;> omega))))) (by omega)).mono ?_
 rintro r B2 ⟨cc, H0w, rfl, qq, f0w, hE2⟩
 obtain ⟨t0k1w, t0k2w, G0k1w, G0k2w, rfl, hH0w, q0k1w, q0k2w⟩ := rep_Store.1 qq
 have v2 := hE2.size
 try simp only [AH.zN, AH.zP] at v2
 simp (maxSteps := 2000000) (disch := first | omega | (simp only [AH.zN, AH.zP] <;> omega) | fail) only [amR Tryd.prog ro X, amS, seval, reduceCtorEq, ty3, ty4, ty9, ty33, ty34, ty36, ty39, ty41, hE1.get, hE2.get]
 refine (PstS.spec_a _ (by first | omega | (simp only [AH.zN, AH.zP] <;> omega)) t0k1w t0k2w x0 _ _ (q0k1w.ext (by ((repeat' (first | exact Ext.refl _ | assumption | refine Ext.trans ?_ (Ext.new _ _) | refine Ext.put ?_ ?_ _ | refine Ext.trans ?_ (by assumption))) <;> (first | omega | (simp only [AH.zN, AH.zP] <;> omega))))) (q0k2w.ext (by ((repeat' (first | exact Ext.refl _ | assumption | refine Ext.trans ?_ (Ext.new _ _) | refine Ext.put ?_ ?_ _ | refine Ext.trans ?_ (by assumption))) <;> (first | omega | (simp only [AH.zN, AH.zP] <;> omega))))) (fun r hr => (b0.2.2.2 r hr).1.1)).mono ?_
 rintro r B3 ⟨rfl, hE3⟩
 have v3 := hE3.size
 try simp only [AH.zN, AH.zP] at v3
 simp (maxSteps := 2000000) (disch := first | omega | (simp only [AH.zN, AH.zP] <;> omega) | fail) only [amR Tryd.prog ro X, amS, seval, reduceCtorEq, ty3, ty4, ty9, ty33, ty34, ty36, ty39, ty41, hE1.get, hE2.get, hE3.get]
 refine (Law.to_Store _ (by first | omega | (simp only [AH.zN, AH.zP] <;> omega)) x0 _ _ (Dat.ext h0 (by ((repeat' (first | exact Ext.refl _ | assumption | refine Ext.trans ?_ (Ext.new _ _) | refine Ext.put ?_ ?_ _ | refine Ext.trans ?_ (by assumption))) <;> (first | omega | (simp only [AH.zN, AH.zP] <;> omega))))) (by omega)).mono ?_
 rintro r B4 ⟨cc, H0x, rfl, qq, f0x, hE4⟩
 obtain ⟨t0k1x, t0k2x, G0k1x, G0k2x, rfl, hH0x, q0k1x, q0k2x⟩ := rep_Store.1 qq
 have v4 := hE4.size
 try simp only [AH.zN, AH.zP] at v4
 simp (maxSteps := 2000000) (disch := first | omega | (simp only [AH.zN, AH.zP] <;> omega) | fail) only [amR Tryd.prog ro X, amS, seval, reduceCtorEq, ty3, ty4, ty9, ty33, ty34, ty36, ty39, ty41, hE1.get, hE2.get, hE3.get, hE4.get]
 refine (Psto.impl_a hXB _ (by first | omega | (simp only [AH.zN, AH.zP] <;> omega)) (hT.ext (by ((repeat' (first | exact Ext.refl _ | assumption | refine Ext.trans ?_ (Ext.new _ _) | refine Ext.put ?_ ?_ _ | refine Ext.trans ?_ (by assumption))) <;> (first | omega | (simp only [AH.zN, AH.zP] <;> omega))))) (hP.ext (by ((repeat' (first | exact Ext.refl _ | assumption | refine Ext.trans ?_ (Ext.new _ _) | refine Ext.put ?_ ?_ _ | refine Ext.trans ?_ (by assumption))) <;> (first | omega | (simp only [AH.zN, AH.zP] <;> omega))))) t0k1x t0k2x x0 _ _ (q0k1x.ext (by ((repeat' (first | exact Ext.refl _ | assumption | refine Ext.trans ?_ (Ext.new _ _) | refine Ext.put ?_ ?_ _ | refine Ext.trans ?_ (by assumption))) <;> (first | omega | (simp only [AH.zN, AH.zP] <;> omega))))) (q0k2x.ext (by ((repeat' (first | exact Ext.refl _ | assumption | refine Ext.trans ?_ (Ext.new _ _) | refine Ext.put ?_ ?_ _ | refine Ext.trans ?_ (by assumption))) <;> (first | omega | (simp only [AH.zN, AH.zP] <;> omega)))))).mono ?_
 rintro r B5 ⟨rfl, hE5⟩
 have v5 := hE5.size
 try simp only [AH.zN, AH.zP] at v5
 simp (maxSteps := 2000000) (disch := first | omega | (simp only [AH.zN, AH.zP] <;> omega) | fail) only [amR Tryd.prog ro X, amS, seval, reduceCtorEq, ty3, ty4, ty9, ty33, ty34, ty36, ty39, ty41, hE1.get, hE2.get, hE3.get, hE4.get, hE5.get]
 refine Wp.runG [2] (by kernel_rfl) (.inl (by kernel_rfl)) ?_
 simp (maxSteps := 2000000) (disch := first | omega | (simp only [AH.zN, AH.zP] <;> omega) | fail) only [amR Tryd.prog ro X, amS, seval, reduceCtorEq, ty3, ty4, ty9, ty33, ty34, ty36, ty39, ty41, hE1.get, hE2.get, hE3.get, hE4.get, hE5.get]
 refine (Law.to_Store _ (by first | omega | (simp only [AH.zN, AH.zP] <;> omega)) x0 _ _ (Dat.ext h0 (by ((repeat' (first | exact Ext.refl _ | assumption | refine Ext.trans ?_ (Ext.new _ _) | refine Ext.put ?_ ?_ _ | refine Ext.trans ?_ (by assumption))) <;> (first | omega | (simp only [AH.zN, AH.zP] <;> omega))))) (by omega)).mono ?_
 rintro r B6 ⟨cc, H0y, rfl, qq, f0y, hE6⟩
 obtain ⟨t0k1y, t0k2y, G0k1y, G0k2y, rfl, hH0y, q0k1y, q0k2y⟩ := rep_Store.1 qq
 have v6 := hE6.size
 try simp only [AH.zN, AH.zP] at v6
 simp (maxSteps := 2000000) (disch := first | omega | (simp only [AH.zN, AH.zP] <;> omega) | fail) only [amR Tryd.prog ro X, amS, seval, reduceCtorEq, ty3, ty4, ty9, ty33, ty34, ty36, ty39, ty41, hE1.get, hE2.get, hE3.get, hE4.get, hE5.get]
 refine ⟨fun b hb => hE6.get b hb, ?_⟩
 try simp (maxSteps := 2000000) (disch := first | omega | (simp only [AH.zN, AH.zP] <;> omega) | fail) only [amR Tryd.prog ro X, amS, seval, reduceCtorEq, ty3, ty4, ty9, ty33, ty34, ty36, ty39, ty41, hE1.get, hE2.get, hE3.get, hE4.get, hE5.get, hE6.get]
 refine (Law.eq_Store _ (by first | omega | (simp only [AH.zN, AH.zP] <;> omega)) x0 x0 _ _ _ _ (rep_Store.2 ⟨t0k1x, t0k2x, _, _, rfl, rfl, q0k1x.ext (by ((repeat' (first | exact Ext.refl _ | assumption | refine Ext.trans ?_ (Ext.new _ _) | refine Ext.put ?_ ?_ _ | refine Ext.trans ?_ (by assumption))) <;> (first | omega | (simp only [AH.zN, AH.zP] <;> omega)))), q0k2x.ext (by ((repeat' (first | exact Ext.refl _ | assumption | refine Ext.trans ?_ (Ext.new _ _) | refine Ext.put ?_ ?_ _ | refine Ext.trans ?_ (by assumption))) <;> (first | omega | (simp only [AH.zN, AH.zP] <;> omega))))⟩) (rep_Store.2 ⟨t0k1y, t0k2y, _, _, rfl, rfl, q0k1y.ext (by ((repeat' (first | exact Ext.refl _ | assumption | refine Ext.trans ?_ (Ext.new _ _) | refine Ext.put ?_ ?_ _ | refine Ext.trans ?_ (by assumption))) <;> (first | omega | (simp only [AH.zN, AH.zP] <;> omega)))), q0k2y.ext (by ((repeat' (first | exact Ext.refl _ | assumption | refine Ext.trans ?_ (Ext.new _ _) | refine Ext.put ?_ ?_ _ | refine Ext.trans ?_ (by assumption))) <;> (first | omega | (simp only [AH.zN, AH.zP] <;> omega))))⟩) (by omega)).mono ?_
 rintro r B7 ⟨rfl, hE7⟩
 have v7 := hE7.size
 try simp only [AH.zN, AH.zP] at v7
 simp (maxSteps := 2000000) (disch := first | omega | (simp only [AH.zN, AH.zP] <;> omega) | fail) only [amR Tryd.prog ro X, amS, seval, reduceCtorEq, ty3, ty4, ty9, ty33, ty34, ty36, ty39, ty41, hE1.get, hE2.get, hE3.get, hE4.get, hE5.get, hE6.get, hE7.get]
end Go.Proofs.YtjlbcofopapajaaDoor.Amu.LPrintStore
