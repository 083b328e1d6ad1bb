import Derived.Test.YtmelgjblkmbhjaaGreatDoorAmuTy
import Derived.Test.YtmelgjblkmbhjaaGreatDoorAmuDoubt
import Derived.Test.YtmelgjblkmbhjaaGreatDoorAmuSdoubt
import Derived.Test.YtmelgjblkmbhjaaGreatDoorAmuLawA
namespace Go.Proofs.YtmelgjblkmbhjaaGreatDoor.Amu.LDoubt
open Go Go.AM Go.Proofs
set_option linter.all false
open Ty
variable {ro : Nat} {X : FuncId → List Value → AH → ARes → AH → Prop}
set_option maxRecDepth 10000
theorem law_a (A : AH) (hro : ro ≤ A.size) (hT : Tab 0 A) (hP : Pow 6 A) (hXD : ∀ f args A r A', XD Tryz.prog Tryz.prog.globals.size ro (fun _ _ _ _ _ => False) f args A r A' → X f args A r A') (x0 : TStore) (c0 : List Value) (F0 : List Nat) (h0 : Dat.rep A x0 c0 F0) (b0 : Mk.bd x0) (x1 : TSpace) (c1 : List Value) (F1 : List Nat) (h1 : Dat.rep A x1 c1 F1) (b1 : Mk.bd x1) (x2 : ByteArray) (hx2 : x2.size < 4611686018427387904) :
 ACalls Tryz.prog ro X 4 [.agg c0.toArray, .agg c1.toArray, .string x2] A (fun r _ => r = .ret (.bool true)) := by
 refine ACalls.enterQ (rs := [.tmp 6]) Tryz.func4 rfl (by kernel_rfl) rfl ?_
 obtain ⟨ra, rb, rc, hr⟩ := clashV_ex (doubtR x0 x1 x2)
 have hh0 := h0
 obtain ⟨w0k1, w0k2, _, _, rfl, _, _, _⟩ := rep_Store.1 hh0
 have hh1 := h1
 obtain ⟨w1k1, w1k2, _, _, rfl, _, _, _⟩ := rep_Space.1 hh1
 by_cases hbig2 : (1048576 : Int) < x2.size
 ·simp (maxSteps := 2000000) (disch := first | omega | (simp only [AH.zN, AH.zP] <;> omega) | fail) only [amR Tryz.prog ro X, amS, seval, reduceCtorEq, ty3, ty4, ty9, ty22, ty23, ty25, ty27, ty29, ty35, ty36, ty38, ty42, ty43, ty45, hbig2]
 simp (maxSteps := 2000000) (disch := first | omega | (simp only [AH.zN, AH.zP] <;> omega) | fail) only [amR Tryz.prog ro X, amS, seval, reduceCtorEq, ty3, ty4, ty9, ty22, ty23, ty25, ty27, ty29, ty35, ty36, ty38, ty42, ty43, ty45, hbig2]
 refine (Law.sz_Store _ (by first | omega | (simp only [AH.zN, AH.zP] <;> omega)) x0 _ _ (Dat.ext h0 (by ((repeat' (first | exact Ext.refl _ | assumption | refine Ext.trans ?_ (Ext.new _ _) | refine Ext.put ?_ ?_ _ | refine Ext.trans ?_ (by assumption))) <;> (first | omega | (simp only [AH.zN, AH.zP] <;> omega))))) b0 (1048576) (by omega)).mono ?_
 rintro r B1 ⟨rfl, hE1⟩
 have v1 := hE1.size
 try simp only [AH.zN, AH.zP] at v1
 by_cases z0 : 1048576 - (Mk.sz x0 : Nat) < (0 : Int)
 ·rw [szR_neg z0]
  simp (maxSteps := 2000000) (disch := first | omega | (simp only [AH.zN, AH.zP] <;> omega) | fail) only [amR Tryz.prog ro X, amS, seval, reduceCtorEq, ty3, ty4, ty9, ty22, ty23, ty25, ty27, ty29, ty35, ty36, ty38, ty42, ty43, ty45, hbig2, hE1.get]
 rw [szR_pos z0]
 simp (maxSteps := 2000000) (disch := first | omega | (simp only [AH.zN, AH.zP] <;> omega) | fail) only [amR Tryz.prog ro X, amS, seval, reduceCtorEq, ty3, ty4, ty9, ty22, ty23, ty25, ty27, ty29, ty35, ty36, ty38, ty42, ty43, ty45, hbig2, hE1.get, z0]
 refine (Law.sz_Space _ (by first | omega | (simp only [AH.zN, AH.zP] <;> omega)) x1 _ _ (Dat.ext h1 (by ((repeat' (first | exact Ext.refl _ | assumption | refine Ext.trans ?_ (Ext.new _ _) | refine Ext.put ?_ ?_ _ | refine Ext.trans ?_ (by assumption))) <;> (first | omega | (simp only [AH.zN, AH.zP] <;> omega))))) b1 (1048576 - (Mk.sz x0 : Nat)) (by omega)).mono ?_
 rintro r B2 ⟨rfl, hE2⟩
 have v2 := hE2.size
 try simp only [AH.zN, AH.zP] at v2
 by_cases z1 : 1048576 - (Mk.sz x0 : Nat) - (Mk.sz x1 : Nat) < (0 : Int)
 ·rw [szR_neg z1]
  simp (maxSteps := 2000000) (disch := first | omega | (simp only [AH.zN, AH.zP] <;> omega) | fail) only [amR Tryz.prog ro X, amS, seval, reduceCtorEq, ty3, ty4, ty9, ty22, ty23, ty25, ty27, ty29, ty35, ty36, ty38, ty42, ty43, ty45, hbig2, hE1.get, hE2.get]
 rw [szR_pos z1]
 simp (maxSteps := 2000000) (disch := first | omega | (simp only [AH.zN, AH.zP] <;> omega) | fail) only [amR Tryz.prog ro X, amS, seval, reduceCtorEq, ty3, ty4, ty9, ty22, ty23, ty25, ty27, ty29, ty35, ty36, ty38, ty42, ty43, ty45, hbig2, hE1.get, hE2.get, z1]
 refine Wp.runG [1] (by kernel_rfl) (.inr (by intro v e A h; simp only [amK, amQ, thenQ, blockQ, endQ, reduceCtorEq, false_and, exists_false] at h)) ?_
 simp (maxSteps := 2000000) (disch := first | omega | (simp only [AH.zN, AH.zP] <;> omega) | fail) only [amR Tryz.prog ro X, amS, seval, reduceCtorEq, ty3, ty4, ty9, ty22, ty23, ty25, ty27, ty29, ty35, ty36, ty38, ty42, ty43, ty45, hbig2, hE1.get, hE2.get]
 refine (Law.to_Store _ (by first | omega | (simp only [AH.zN, AH.zP] <;> omega)) x0 _ _ (Dat.ext h0 (by ((repeat' (first | exact Ext.refl _ | assumption | refine Ext.trans ?_ (Ext.new _ _) | refine Ext.put ?_ ?_ _ | refine Ext.trans ?_ (by assumption))) <;> (first | omega | (simp only [AH.zN, AH.zP] <;> omega))))) (by omega)).mono ?_
 rintro r B3 ⟨cc, H0w, rfl, qq, f0w, hE3⟩
 obtain ⟨t0k1w, t0k2w, G0k1w, G0k2w, rfl, hH0w, q0k1w, q0k2w⟩ := rep_Store.1 qq
 have v3 := hE3.size
 try simp only [AH.zN, AH.zP] at v3
 simp (maxSteps := 2000000) (disch := first | omega | (simp only [AH.zN, AH.zP] <;> omega) | fail) only [amR Tryz.prog ro X, amS, seval, reduceCtorEq, ty3, ty4, ty9, ty22, ty23, ty25, ty27, ty29, ty35, ty36, ty38, ty42, ty43, ty45, hbig2, hE1.get, hE2.get]
 refine ⟨fun b hb => hE3.get b hb, ?_⟩
 try simp (maxSteps := 2000000) (disch := first | omega | (simp only [AH.zN, AH.zP] <;> omega) | fail) only [amR Tryz.prog ro X, amS, seval, reduceCtorEq, ty3, ty4, ty9, ty22, ty23, ty25, ty27, ty29, ty35, ty36, ty38, ty42, ty43, ty45, hbig2, hE1.get, hE2.get, hE3.get]
 refine (Law.to_Space _ (by first | omega | (simp only [AH.zN, AH.zP] <;> omega)) x1 _ _ (Dat.ext h1 (by ((repeat' (first | exact Ext.refl _ | assumption | refine Ext.trans ?_ (Ext.new _ _) | refine Ext.put ?_ ?_ _ | refine Ext.trans ?_ (by assumption))) <;> (first | omega | (simp only [AH.zN, AH.zP] <;> omega))))) (by omega)).mono ?_
 rintro r B4 ⟨cc, H1w, rfl, qq, f1w, hE4⟩
 obtain ⟨t1k1w, t1k2w, G1k1w, G1k2w, rfl, hH1w, q1k1w, q1k2w⟩ := rep_Space.1 qq
 have v4 := hE4.size
 try simp only [AH.zN, AH.zP] at v4
 simp (maxSteps := 2000000) (disch := first | omega | (simp only [AH.zN, AH.zP] <;> omega) | fail) only [amR Tryz.prog ro X, amS, seval, reduceCtorEq, ty3, ty4, ty9, ty22, ty23, ty25, ty27, ty29, ty35, ty36, ty38, ty42, ty43, ty45, hbig2, hE1.get, hE2.get, hE3.get, hE4.get]
 refine (Sdoubt.spec_a _ (by first | omega | (simp only [AH.zN, AH.zP] <;> omega)) t0k1w t0k2w x0 _ _ (q0k1w.ext (by ((repeat' (first | exact Ext.refl _ | assumption | refine Ext.trans ?_ (Ext.new _ _) | refine Ext.put ?_ ?_ _ | refine Ext.trans ?_ (by assumption))) <;> (first | omega | (simp only [AH.zN, AH.zP] <;> omega))))) (q0k2w.ext (by ((repeat' (first | exact Ext.refl _ | assumption | refine Ext.trans ?_ (Ext.new _ _) | refine Ext.put ?_ ?_ _ | refine Ext.trans ?_ (by assumption))) <;> (first | omega | (simp only [AH.zN, AH.zP] <;> omega))))) (fun r hr => (b0.2.2.2 r hr).1.1) t1k1w t1k2w x1 _ _ (q1k1w.ext (by ((repeat' (first | exact Ext.refl _ | assumption | refine Ext.trans ?_ (Ext.new _ _) | refine Ext.put ?_ ?_ _ | refine Ext.trans ?_ (by assumption))) <;> (first | omega | (simp only [AH.zN, AH.zP] <;> omega))))) (q1k2w.ext (by ((repeat' (first | exact Ext.refl _ | assumption | refine Ext.trans ?_ (Ext.new _ _) | refine Ext.put ?_ ?_ _ | refine Ext.trans ?_ (by assumption))) <;> (first | omega | (simp only [AH.zN, AH.zP] <;> omega))))) (by have := b1.1.1; omega) (by have := b1.2.1; omega) (fun t ht => (b1.2.2 t ht).2.1) x2).mono ?_
 rintro r B5 ⟨rfl, hE5⟩
 have v5 := hE5.size
 try simp only [AH.zN, AH.zP] at v5
 rw [hr]
 simp (maxSteps := 2000000) (disch := first | omega | (simp only [AH.zN, AH.zP] <;> omega) | fail) only [amR Tryz.prog ro X, amS, seval, reduceCtorEq, ty3, ty4, ty9, ty22, ty23, ty25, ty27, ty29, ty35, ty36, ty38, ty42, ty43, ty45, hbig2, hE1.get, hE2.get, hE3.get, hE4.get, hE5.get]
 refine (Law.to_Store _ (by first | omega | (simp only [AH.zN, AH.zP] <;> omega)) x0 _ _ (Dat.ext h0 (by ((repeat' (first | exact Ext.refl _ | assumption | refine Ext.trans ?_ (Ext.new _ _) | refine Ext.put ?_ ?_ _ | refine Ext.trans ?_ (by assumption))) <;> (first | omega | (simp only [AH.zN, AH.zP] <;> omega))))) (by omega)).mono ?_
 rintro r B6 ⟨cc, H0x, rfl, qq, f0x, hE6⟩
 obtain ⟨t0k1x, t0k2x, G0k1x, G0k2x, rfl, hH0x, q0k1x, q0k2x⟩ := rep_Store.1 qq
 have v6 := hE6.size
 try simp only [AH.zN, AH.zP] at v6
 simp (maxSteps := 2000000) (disch := first | omega | (simp only [AH.zN, AH.zP] <;> omega) | fail) only [amR Tryz.prog ro X, amS, seval, reduceCtorEq, ty3, ty4, ty9, ty22, ty23, ty25, ty27, ty29, ty35, ty36, ty38, ty42, ty43, ty45, hbig2, hE1.get, hE2.get, hE3.get, hE4.get, hE5.get, hE6.get]
 refine (Law.to_Space _ (by first | omega | (simp only [AH.zN, AH.zP] <;> omega)) x1 _ _ (Dat.ext h1 (by ((repeat' (first | exact Ext.refl _ | assumption | refine Ext.trans ?_ (Ext.new _ _) | refine Ext.put ?_ ?_ _ | refine Ext.trans ?_ (by assumption))) <;> (first | omega | (simp only [AH.zN, AH.zP] <;> omega))))) (by omega)).mono ?_
 rintro r B7 ⟨cc, H1x, rfl, qq, f1x, hE7⟩
 obtain ⟨t1k1x, t1k2x, G1k1x, G1k2x, rfl, hH1x, q1k1x, q1k2x⟩ := rep_Space.1 qq
 have v7 := hE7.size
 try simp only [AH.zN, AH.zP] at v7
 simp (maxSteps := 2000000) (disch := first | omega | (simp only [AH.zN, AH.zP] <;> omega) | fail) only [amR Tryz.prog ro X, amS, seval, reduceCtorEq, ty3, ty4, ty9, ty22, ty23, ty25, ty27, ty29, ty35, ty36, ty38, ty42, ty43, ty45, hbig2, hE1.get, hE2.get, hE3.get, hE4.get, hE5.get, hE6.get, hE7.get]
 refine (Doubt.impl_a hXD _ (by first | omega | (simp only [AH.zN, AH.zP] <;> omega)) (hT.ext (by ((repeat' (first | exact Ext.refl _ | assumption | refine Ext.trans ?_ (Ext.new _ _) | refine Ext.put ?_ ?_ _ | refine Ext.trans ?_ (by assumption))) <;> (first | omega | (simp only [AH.zN, AH.zP] <;> omega))))) (hP.ext (by ((repeat' (first | exact Ext.refl _ | assumption | refine Ext.trans ?_ (Ext.new _ _) | refine Ext.put ?_ ?_ _ | refine Ext.trans ?_ (by assumption))) <;> (first | omega | (simp only [AH.zN, AH.zP] <;> omega))))) t0k1x t0k2x x0 _ _ (q0k1x.ext (by ((repeat' (first | exact Ext.refl _ | assumption | refine Ext.trans ?_ (Ext.new _ _) | refine Ext.put ?_ ?_ _ | refine Ext.trans ?_ (by assumption))) <;> (first | omega | (simp only [AH.zN, AH.zP] <;> omega))))) (q0k2x.ext (by ((repeat' (first | exact Ext.refl _ | assumption | refine Ext.trans ?_ (Ext.new _ _) | refine Ext.put ?_ ?_ _ | refine Ext.trans ?_ (by assumption))) <;> (first | omega | (simp only [AH.zN, AH.zP] <;> omega))))) t1k1x t1k2x x1 _ _ (q1k1x.ext (by ((repeat' (first | exact Ext.refl _ | assumption | refine Ext.trans ?_ (Ext.new _ _) | refine Ext.put ?_ ?_ _ | refine Ext.trans ?_ (by assumption))) <;> (first | omega | (simp only [AH.zN, AH.zP] <;> omega))))) (q1k2x.ext (by ((repeat' (first | exact Ext.refl _ | assumption | refine Ext.trans ?_ (Ext.new _ _) | refine Ext.put ?_ ?_ _ | refine Ext.trans ?_ (by assumption))) <;> (first | omega | (simp only [AH.zN, AH.zP] <;> omega))))) (by have := b1.1.1; omega) (by have := b1.2.1; omega) x2).mono ?_
 rintro r B8 ⟨rfl, hE8⟩
 have v8 := hE8.size
 try simp only [AH.zN, AH.zP] at v8
 rw [hr]
 simp (maxSteps := 2000000) (disch := first | omega | (simp only [AH.zN, AH.zP] <;> omega) | fail) only [amR Tryz.prog ro X, amS, seval, reduceCtorEq, ty3, ty4, ty9, ty22, ty23, ty25, ty27, ty29, ty35, ty36, ty38, ty42, ty43, ty45, hbig2, hE1.get, hE2.get, hE3.get, hE4.get, hE5.get, hE6.get, hE7.get, hE8.get]
 refine Wp.runG [2] (by kernel_rfl) (.inl (by kernel_rfl)) ?_
 simp (maxSteps := 2000000) (disch := first | omega | (simp only [AH.zN, AH.zP] <;> omega) | fail) only [amR Tryz.prog ro X, amS, seval, reduceCtorEq, ty3, ty4, ty9, ty22, ty23, ty25, ty27, ty29, ty35, ty36, ty38, ty42, ty43, ty45, hbig2, hE1.get, hE2.get, hE3.get, hE4.get, hE5.get, hE6.get, hE7.get, hE8.get]
 refine (Law.to_Store _ (by first | omega | (simp only [AH.zN, AH.zP] <;> omega)) x0 _ _ (Dat.ext h0 (by ((repeat' (first | exact Ext.refl _ | assumption | refine Ext.trans ?_ (Ext.new _ _) | refine Ext.put ?_ ?_ _ | refine Ext.trans ?_ (by assumption))) <;> (first | omega | (simp only [AH.zN, AH.zP] <;> omega))))) (by omega)).mono ?_
 rintro r B9 ⟨cc, H0y, rfl, qq, f0y, hE9⟩
 obtain ⟨t0k1y, t0k2y, G0k1y, G0k2y, rfl, hH0y, q0k1y, q0k2y⟩ := rep_Store.1 qq
 have v9 := hE9.size
 try simp only [AH.zN, AH.zP] at v9
 simp (maxSteps := 2000000) (disch := first | omega | (simp only [AH.zN, AH.zP] <;> omega) | fail) only [amR Tryz.prog ro X, amS, seval, reduceCtorEq, ty3, ty4, ty9, ty22, ty23, ty25, ty27, ty29, ty35, ty36, ty38, ty42, ty43, ty45, hbig2, hE1.get, hE2.get, hE3.get, hE4.get, hE5.get, hE6.get, hE7.get, hE8.get]
 refine ⟨fun b hb => hE9.get b hb, ?_⟩
 try simp (maxSteps := 2000000) (disch := first | omega | (simp only [AH.zN, AH.zP] <;> omega) | fail) only [amR Tryz.prog ro X, amS, seval, reduceCtorEq, ty3, ty4, ty9, ty22, ty23, ty25, ty27, ty29, ty35, ty36, ty38, ty42, ty43, ty45, hbig2, hE1.get, hE2.get, hE3.get, hE4.get, hE5.get, hE6.get, hE7.get, hE8.get, hE9.get]
 refine (Law.eq_Store _ (by first | omega | (simp only [AH.zN, AH.zP] <;> omega)) x0 x0 _ _ _ _ (rep_Store.2 ⟨t0k1x, t0k2x, _, _, rfl, rfl, q0k1x.ext (by ((repeat' (first | exact Ext.refl _ | assumption | refine Ext.trans ?_ (Ext.new _ _) | refine Ext.put ?_ ?_ _ | refine Ext.trans ?_ (by assumption))) <;> (first | omega | (simp only [AH.zN, AH.zP] <;> omega)))), q0k2x.ext (by ((repeat' (first | exact Ext.refl _ | assumption | refine Ext.trans ?_ (Ext.new _ _) | refine Ext.put ?_ ?_ _ | refine Ext.trans ?_ (by assumption))) <;> (first | omega | (simp only [AH.zN, AH.zP] <;> omega))))⟩) (rep_Store.2 ⟨t0k1y, t0k2y, _, _, rfl, rfl, q0k1y.ext (by ((repeat' (first | exact Ext.refl _ | assumption | refine Ext.trans ?_ (Ext.new _ _) | refine Ext.put ?_ ?_ _ | refine Ext.trans ?_ (by assumption))) <;> (first | omega | (simp only [AH.zN, AH.zP] <;> omega)))), q0k2y.ext (by ((repeat' (first | exact Ext.refl _ | assumption | refine Ext.trans ?_ (Ext.new _ _) | refine Ext.put ?_ ?_ _ | refine Ext.trans ?_ (by assumption))) <;> (first | omega | (simp only [AH.zN, AH.zP] <;> omega))))⟩) (by omega)).mono ?_
 rintro r B10 ⟨rfl, hE10⟩
 have v10 := hE10.size
 try simp only [AH.zN, AH.zP] at v10
 simp (maxSteps := 2000000) (disch := first | omega | (simp only [AH.zN, AH.zP] <;> omega) | fail) only [amR Tryz.prog ro X, amS, seval, reduceCtorEq, ty3, ty4, ty9, ty22, ty23, ty25, ty27, ty29, ty35, ty36, ty38, ty42, ty43, ty45, hbig2, hE1.get, hE2.get, hE3.get, hE4.get, hE5.get, hE6.get, hE7.get, hE8.get, hE9.get, hE10.get]
 refine Wp.runG [2] (by kernel_rfl) (.inl (by kernel_rfl)) ?_
 simp (maxSteps := 2000000) (disch := first | omega | (simp only [AH.zN, AH.zP] <;> omega) | fail) only [amR Tryz.prog ro X, amS, seval, reduceCtorEq, ty3, ty4, ty9, ty22, ty23, ty25, ty27, ty29, ty35, ty36, ty38, ty42, ty43, ty45, hbig2, hE1.get, hE2.get, hE3.get, hE4.get, hE5.get, hE6.get, hE7.get, hE8.get, hE9.get, hE10.get]
 refine (Law.to_Space _ (by first | omega | (simp only [AH.zN, AH.zP] <;> omega)) x1 _ _ (Dat.ext h1 (by ((repeat' (first | exact Ext.refl _ | assumption | refine Ext.trans ?_ (Ext.new _ _) | refine Ext.put ?_ ?_ _ | refine Ext.trans ?_ (by assumption))) <;> (first | omega | (simp only [AH.zN, AH.zP] <;> omega))))) (by omega)).mono ?_
 rintro r B11 ⟨cc, H1y, rfl, qq, f1y, hE11⟩
 obtain ⟨t1k1y, t1k2y, G1k1y, G1k2y, rfl, hH1y, q1k1y, q1k2y⟩ := rep_Space.1 qq
 have v11 := hE11.size
 try simp only [AH.zN, AH.zP] at v11
 simp (maxSteps := 2000000) (disch := first | omega | (simp only [AH.zN, AH.zP] <;> omega) | fail) only [amR Tryz.prog ro X, amS, seval, reduceCtorEq, ty3, ty4, ty9, ty22, ty23, ty25, ty27, ty29, ty35, ty36, ty38, ty42, ty43, ty45, hbig2, hE1.get, hE2.get, hE3.get, hE4.get, hE5.get, hE6.get, hE7.get, hE8.get, hE9.get, hE10.get]
 refine ⟨fun b hb => hE11.get b hb, ?_⟩
 try simp (maxSteps := 2000000) (disch := first | omega | (simp only [AH.zN, AH.zP] <;> omega) | fail) only [amR Tryz.prog ro X, amS, seval, reduceCtorEq, ty3, ty4, ty9, ty22, ty23, ty25, ty27, ty29, ty35, ty36, ty38, ty42, ty43, ty45, hbig2, hE1.get, hE2.get, hE3.get, hE4.get, hE5.get, hE6.get, hE7.get, hE8.get, hE9.get, hE10.get, hE11.get]
 refine (Law.eq_Space _ (by first | omega | (simp only [AH.zN, AH.zP] <;> omega)) x1 x1 _ _ _ _ (rep_Space.2 ⟨t1k1x, t1k2x, _, _, rfl, rfl, q1k1x.ext (by ((repeat' (first | exact Ext.refl _ | assumption | refine Ext.trans ?_ (Ext.new _ _) | refine Ext.put ?_ ?_ _ | refine Ext.trans ?_ (by assumption))) <;> (first | omega | (simp only [AH.zN, AH.zP] <;> omega)))), q1k2x.ext (by ((repeat' (first | exact Ext.refl _ | assumption | refine Ext.trans ?_ (Ext.new _ _) | refine Ext.put ?_ ?_ _ | refine Ext.trans ?_ (by assumption))) <;> (first | omega | (simp only [AH.zN, AH.zP] <;> omega))))⟩) (rep_Space.2 ⟨t1k1y, t1k2y, _, _, rfl, rfl, q1k1y.ext (by ((repeat' (first | exact Ext.refl _ | assumption | refine Ext.trans ?_ (Ext.new _ _) | refine Ext.put ?_ ?_ _ | refine Ext.trans ?_ (by assumption))) <;> (first | omega | (simp only [AH.zN, AH.zP] <;> omega)))), q1k2y.ext (by ((repeat' (first | exact Ext.refl _ | assumption | refine Ext.trans ?_ (Ext.new _ _) | refine Ext.put ?_ ?_ _ | refine Ext.trans ?_ (by assumption))) <;> (first | omega | (simp only [AH.zN, AH.zP] <;> omega))))⟩) (by omega)).mono ?_
 rintro r B12 ⟨rfl, hE12⟩
 have v12 := hE12.size
 try simp only [AH.zN, AH.zP] at v12
 simp (maxSteps := 2000000) (disch := first | omega | (simp only [AH.zN, AH.zP] <;> omega) | fail) only [amR Tryz.prog ro X, amS, seval, reduceCtorEq, ty3, ty4, ty9, ty22, ty23, ty25, ty27, ty29, ty35, ty36, ty38, ty42, ty43, ty45, hbig2, hE1.get, hE2.get, hE3.get, hE4.get, hE5.get, hE6.get, hE7.get, hE8.get, hE9.get, hE10.get, hE11.get, hE12.get]
end Go.Proofs.YtmelgjblkmbhjaaGreatDoor.Amu.LDoubt
