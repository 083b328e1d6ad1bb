import Derived.Test.YtmelgjblkmbhjaaDoorAmuTy
import Derived.Test.YtmelgjblkmbhjaaDoorAmuTrail
import Derived.Test.YtmelgjblkmbhjaaDoorAmuStrail
import Derived.Test.YtmelgjblkmbhjaaDoorAmuLawA
import Derived.Test.YtmelgjblkmbhjaaDoorAmuLawB
namespace Go.Proofs.YtmelgjblkmbhjaaDoor.Amu.LTrail
open Go Go.AM Go.Proofs
set_option linter.unusedVariables false
set_option linter.unusedSimpArgs false
set_option maxHeartbeats 4000000
open Ty
variable {ro : Nat} {X : FuncId → List Value → AH → ARes → AH → Prop}
set_option maxRecDepth 10000
theorem law_a (A : AH) (hro : ro ≤ A.size) (hT : Tab 0 A) (hP : Pow 1 A) (hXD : ∀ f args A r A', XD Tryd.prog Tryd.prog.globals.size ro (fun _ _ _ _ _ => False) f args A r A' → X f args A r A') (x0 : TSpace) (c0 : List Value) (F0 : List Nat) (h0 : Dat.rep A x0 c0 F0) (b0 : Mk.bd x0) (x1 : ByteArray) (hx1 : x1.size < 4611686018427387904) :
 ACalls Tryd.prog ro X 11 [.agg c0.toArray, .string x1] A (fun r _ => r = .ret (.bool true)) := by
 refine ACalls.enterQ (rs := [.tmp 4]) Tryd.func11 rfl (by kernel_rfl) rfl ?_
 have hh0 := h0
 obtain ⟨w0k1, w0k2, _, _, rfl, _, _, _⟩ := rep_Space.1 hh0
 by_cases hbig1 : (1048576 : Int) < x1.size
 ·simp (disch := first | omega | fail) only [amR Tryd.prog ro X, amS, seval, reduceCtorEq, ty3, ty4, ty9, ty43, ty55, ty56, ty58, ty60, ty61, ty63, ty91, hbig1]
 simp (disch := first | omega | fail) only [amR Tryd.prog ro X, amS, seval, reduceCtorEq, ty3, ty4, ty9, ty43, ty55, ty56, ty58, ty60, ty61, ty63, ty91, hbig1]
 refine (Law.sz_Space _ (by first | omega | (simp only [AH.zN, AH.zP] <;> omega)) x0 _ _ (Dat.ext h0 (by ((repeat' (first | exact Ext.refl _ | assumption | refine Ext.trans ?_ (Ext.new _ _) | refine Ext.put ?_ ?_ _ | refine Ext.trans ?_ (by assumption))) <;> (first | omega | (simp only [AH.zN, AH.zP] <;> omega))))) b0 (1048576) (by omega)).mono ?_
 rintro r B1 ⟨rfl, hE1⟩
 have v1 := hE1.size
 try simp only [AH.zN, AH.zP] at v1
 by_cases z0 : 1048576 - (Mk.sz x0 : Nat) < (0 : Int)
 ·rw [szR_neg z0]
  simp (disch := first | omega | fail) only [amR Tryd.prog ro X, amS, seval, reduceCtorEq, ty3, ty4, ty9, ty43, ty55, ty56, ty58, ty60, ty61, ty63, ty91, hbig1, hE1.get]
 rw [szR_pos z0]
 simp (maxSteps := 2000000) (disch := first | omega | (simp only [AH.zN, AH.zP] <;> omega) | fail) only [amR Tryd.prog ro X, amS, seval, reduceCtorEq, ty3, ty4, ty9, ty43, ty55, ty56, ty58, ty60, ty61, ty63, ty91, hbig1, hE1.get, z0]
 obtain ⟨y, hy⟩ : ∃ y, y = trailR x0 x1 := ⟨_, rfl⟩
 have ysz : Mk.sz y < 1073741824 := by
  rw [hy]
  have := trailR_sz x0 x1
  omega
 have y0 : Mk.sz y = Mk.sz y.1 + Mk.sz y.2 := rfl
 have yaz : Mk.sz y.1 = szL Mk.sz y.1 := rfl
 have yan1 := nmL_Seen y.1
 have ybe1 : Mk.sz y.2 = Mk.sz y.2.1 + Mk.sz y.2.2 := rfl
 have ybe2 : Mk.sz y.2.2 = Mk.sz y.2.2.1 + Mk.sz y.2.2.2 := rfl
 have ybl1 : Mk.sz y.2.2.2 = szL Mk.sz y.2.2.2 := rfl
 have ybn1 := nmL_Str y.2.2.2
 have m0e1 : Mk.sz x0 = Mk.sz x0.1 + Mk.sz x0.2 := rfl
 have m0l1 : Mk.sz x0.1 = szL Mk.sz x0.1 := rfl
 have m0n1 := nmL_Source x0.1
 have m0l2 : Mk.sz x0.2 = szL Mk.sz x0.2 := rfl
 have m0n2 := nmL_Target x0.2
 refine (Law.to_Space _ (by first | omega | (simp only [AH.zN, AH.zP] <;> omega)) x0 _ _ (Dat.ext h0 (by ((repeat' (first | exact Ext.refl _ | assumption | refine Ext.trans ?_ (Ext.new _ _) | refine Ext.put ?_ ?_ _ | refine Ext.trans ?_ (by assumption))) <;> (first | omega | (simp only [AH.zN, AH.zP] <;> omega))))) (by omega)).mono ?_
 rintro r B2 ⟨cc, H0w, rfl, qq, f0w, hE2⟩
 obtain ⟨t0k1w, t0k2w, G0k1w, G0k2w, rfl, hH0w, q0k1w, q0k2w⟩ := rep_Space.1 qq
 have v2 := hE2.size
 try simp only [AH.zN, AH.zP] at v2
 simp (disch := first | omega | fail) only [amR Tryd.prog ro X, amS, seval, reduceCtorEq, ty3, ty4, ty9, ty43, ty55, ty56, ty58, ty60, ty61, ty63, ty91, hbig1, hE1.get, hE2.get]
 refine (Strail.spec_a _ (by first | omega | (simp only [AH.zN, AH.zP] <;> omega)) t0k1w t0k2w x0 _ _ (q0k1w.ext (by ((repeat' (first | exact Ext.refl _ | assumption | refine Ext.trans ?_ (Ext.new _ _) | refine Ext.put ?_ ?_ _ | refine Ext.trans ?_ (by assumption))) <;> (first | omega | (simp only [AH.zN, AH.zP] <;> omega))))) (q0k2w.ext (by ((repeat' (first | exact Ext.refl _ | assumption | refine Ext.trans ?_ (Ext.new _ _) | refine Ext.put ?_ ?_ _ | refine Ext.trans ?_ (by assumption))) <;> (first | omega | (simp only [AH.zN, AH.zP] <;> omega))))) (by have := b0.1.1; omega) (by have := b0.2.1; omega) (fun t ht => (b0.2.2 t ht).2.1) x1).mono ?_
 rintro r B3 ⟨rwk1, Fw1, cc2, Fw2, rfl, pwk1, qq2, _, hE3⟩
 rw [← hy] at pwk1 qq2
 obtain ⟨rwk2, Rwk2, rfl, hRw2, owz1k1, pwk2⟩ := rep_Result.1 qq2
 have v3 := hE3.size
 try simp only [AH.zN, AH.zP] at v3
 simp (maxSteps := 2000000) (disch := first | omega | (simp only [AH.zN, AH.zP] <;> omega) | fail) only [amR Tryd.prog ro X, amS, seval, reduceCtorEq, ty3, ty4, ty9, ty43, ty55, ty56, ty58, ty60, ty61, ty63, ty91, hbig1, hE1.get, hE2.get, hE3.get]
 refine (Law.to_Space _ (by first | omega | (simp only [AH.zN, AH.zP] <;> omega)) x0 _ _ (Dat.ext h0 (by ((repeat' (first | exact Ext.refl _ | assumption | refine Ext.trans ?_ (Ext.new _ _) | refine Ext.put ?_ ?_ _ | refine Ext.trans ?_ (by assumption))) <;> (first | omega | (simp only [AH.zN, AH.zP] <;> omega))))) (by omega)).mono ?_
 rintro r B4 ⟨cc, H0x, rfl, qq, f0x, hE4⟩
 obtain ⟨t0k1x, t0k2x, G0k1x, G0k2x, rfl, hH0x, q0k1x, q0k2x⟩ := rep_Space.1 qq
 have v4 := hE4.size
 try simp only [AH.zN, AH.zP] at v4
 simp (disch := first | omega | fail) only [amR Tryd.prog ro X, amS, seval, reduceCtorEq, ty3, ty4, ty9, ty43, ty55, ty56, ty58, ty60, ty61, ty63, ty91, hbig1, hE1.get, hE2.get, hE3.get, hE4.get]
 refine (Trail.impl_a hXD _ (by first | omega | (simp only [AH.zN, AH.zP] <;> omega)) (hT.ext (by ((repeat' (first | exact Ext.refl _ | assumption | refine Ext.trans ?_ (Ext.new _ _) | refine Ext.put ?_ ?_ _ | refine Ext.trans ?_ (by assumption))) <;> (first | omega | (simp only [AH.zN, AH.zP] <;> omega))))) (hP.ext (by ((repeat' (first | exact Ext.refl _ | assumption | refine Ext.trans ?_ (Ext.new _ _) | refine Ext.put ?_ ?_ _ | refine Ext.trans ?_ (by assumption))) <;> (first | omega | (simp only [AH.zN, AH.zP] <;> omega))))) t0k1x t0k2x x0 _ _ (q0k1x.ext (by ((repeat' (first | exact Ext.refl _ | assumption | refine Ext.trans ?_ (Ext.new _ _) | refine Ext.put ?_ ?_ _ | refine Ext.trans ?_ (by assumption))) <;> (first | omega | (simp only [AH.zN, AH.zP] <;> omega))))) (q0k2x.ext (by ((repeat' (first | exact Ext.refl _ | assumption | refine Ext.trans ?_ (Ext.new _ _) | refine Ext.put ?_ ?_ _ | refine Ext.trans ?_ (by assumption))) <;> (first | omega | (simp only [AH.zN, AH.zP] <;> omega))))) (by have := b0.1.1; omega) (by have := b0.2.1; omega) x1).mono ?_
 rintro r B5 ⟨rgk1, Fg1, cc2, Fg2, rfl, pgk1, qq2, fg, hE5⟩
 rw [← hy] at pgk1 qq2
 obtain ⟨rgk2, Rgk2, rfl, hRg2, ogz1k1, pgk2⟩ := rep_Result.1 qq2
 have v5 := hE5.size
 try simp only [AH.zN, AH.zP] at v5
 simp (disch := first | omega | fail) only [amR Tryd.prog ro X, amS, seval, reduceCtorEq, ty3, ty4, ty9, ty43, ty55, ty56, ty58, ty60, ty61, ty63, ty91, hbig1, hE1.get, hE2.get, hE3.get, hE4.get, hE5.get]
 refine (Law.eqL_Seen _ (by first | omega | (simp only [AH.zN, AH.zP] <;> omega)) rgk1 rwk1 y.1 y.1 _ _ (pgk1.ext (by ((repeat' (first | exact Ext.refl _ | assumption | refine Ext.trans ?_ (Ext.new _ _) | refine Ext.put ?_ ?_ _ | refine Ext.trans ?_ (by assumption))) <;> (first | omega | (simp only [AH.zN, AH.zP] <;> omega))))) (pwk1.ext (by ((repeat' (first | exact Ext.refl _ | assumption | refine Ext.trans ?_ (Ext.new _ _) | refine Ext.put ?_ ?_ _ | refine Ext.trans ?_ (by assumption))) <;> (first | omega | (simp only [AH.zN, AH.zP] <;> omega))))) (by omega)).mono ?_
 rintro r B6 ⟨rfl, hE6⟩
 have v6 := hE6.size
 try simp only [AH.zN, AH.zP] at v6
 simp (maxSteps := 2000000) (disch := first | omega | (simp only [AH.zN, AH.zP] <;> omega) | fail) only [amR Tryd.prog ro X, amS, seval, reduceCtorEq, ty3, ty4, ty9, ty43, ty55, ty56, ty58, ty60, ty61, ty63, ty91, hbig1, hE1.get, hE2.get, hE3.get, hE4.get, hE5.get, hE6.get]
 refine (Law.eq_Result _ (by first | omega | (simp only [AH.zN, AH.zP] <;> omega)) y.2 y.2 _ _ _ _ (rep_Result.2 ⟨rgk2, _, rfl, rfl, ogz1k1, pgk2.ext (by ((repeat' (first | exact Ext.refl _ | assumption | refine Ext.trans ?_ (Ext.new _ _) | refine Ext.put ?_ ?_ _ | refine Ext.trans ?_ (by assumption))) <;> (first | omega | (simp only [AH.zN, AH.zP] <;> omega))))⟩) (rep_Result.2 ⟨rwk2, _, rfl, rfl, owz1k1, pwk2.ext (by ((repeat' (first | exact Ext.refl _ | assumption | refine Ext.trans ?_ (Ext.new _ _) | refine Ext.put ?_ ?_ _ | refine Ext.trans ?_ (by assumption))) <;> (first | omega | (simp only [AH.zN, AH.zP] <;> omega))))⟩) (by omega)).mono ?_
 rintro r B7 ⟨rfl, hE7⟩
 have v7 := hE7.size
 try simp only [AH.zN, AH.zP] at v7
 simp (disch := first | omega | fail) only [amR Tryd.prog ro X, amS, seval, reduceCtorEq, ty3, ty4, ty9, ty43, ty55, ty56, ty58, ty60, ty61, ty63, ty91, hbig1, hE1.get, hE2.get, hE3.get, hE4.get, hE5.get, hE6.get, hE7.get]
 refine Wp.runG [2] (by kernel_rfl) (.inl (by kernel_rfl)) ?_
 simp (maxSteps := 2000000) (disch := first | omega | (simp only [AH.zN, AH.zP] <;> omega) | fail) only [amR Tryd.prog ro X, amS, seval, reduceCtorEq, ty3, ty4, ty9, ty43, ty55, ty56, ty58, ty60, ty61, ty63, ty91, hbig1, hE1.get, hE2.get, hE3.get, hE4.get, hE5.get, hE6.get, hE7.get]
 refine (Law.to_Space _ (by first | omega | (simp only [AH.zN, AH.zP] <;> omega)) x0 _ _ (Dat.ext h0 (by ((repeat' (first | exact Ext.refl _ | assumption | refine Ext.trans ?_ (Ext.new _ _) | refine Ext.put ?_ ?_ _ | refine Ext.trans ?_ (by assumption))) <;> (first | omega | (simp only [AH.zN, AH.zP] <;> omega))))) (by omega)).mono ?_
 rintro r B8 ⟨cc, H0y, rfl, qq, f0y, hE8⟩
 obtain ⟨t0k1y, t0k2y, G0k1y, G0k2y, rfl, hH0y, q0k1y, q0k2y⟩ := rep_Space.1 qq
 have v8 := hE8.size
 try simp only [AH.zN, AH.zP] at v8
 simp (disch := first | omega | fail) only [amR Tryd.prog ro X, amS, seval, reduceCtorEq, ty3, ty4, ty9, ty43, ty55, ty56, ty58, ty60, ty61, ty63, ty91, hbig1, hE1.get, hE2.get, hE3.get, hE4.get, hE5.get, hE6.get, hE7.get]
 refine ⟨fun b hb => hE8.get b hb, ?_⟩
 try simp (disch := first | omega | fail) only [amR Tryd.prog ro X, amS, seval, reduceCtorEq, ty3, ty4, ty9, ty43, ty55, ty56, ty58, ty60, ty61, ty63, ty91, hbig1, hE1.get, hE2.get, hE3.get, hE4.get, hE5.get, hE6.get, hE7.get, hE8.get]
 refine (Law.eq_Space _ (by first | omega | (simp only [AH.zN, AH.zP] <;> omega)) x0 x0 _ _ _ _ (rep_Space.2 ⟨t0k1x, t0k2x, _, _, rfl, rfl, q0k1x.ext (by ((repeat' (first | exact Ext.refl _ | assumption | refine Ext.trans ?_ (Ext.new _ _) | refine Ext.put ?_ ?_ _ | refine Ext.trans ?_ (by assumption))) <;> (first | omega | (simp only [AH.zN, AH.zP] <;> omega)))), q0k2x.ext (by ((repeat' (first | exact Ext.refl _ | assumption | refine Ext.trans ?_ (Ext.new _ _) | refine Ext.put ?_ ?_ _ | refine Ext.trans ?_ (by assumption))) <;> (first | omega | (simp only [AH.zN, AH.zP] <;> omega))))⟩) (rep_Space.2 ⟨t0k1y, t0k2y, _, _, rfl, rfl, q0k1y.ext (by ((repeat' (first | exact Ext.refl _ | assumption | refine Ext.trans ?_ (Ext.new _ _) | refine Ext.put ?_ ?_ _ | refine Ext.trans ?_ (by assumption))) <;> (first | omega | (simp only [AH.zN, AH.zP] <;> omega)))), q0k2y.ext (by ((repeat' (first | exact Ext.refl _ | assumption | refine Ext.trans ?_ (Ext.new _ _) | refine Ext.put ?_ ?_ _ | refine Ext.trans ?_ (by assumption))) <;> (first | omega | (simp only [AH.zN, AH.zP] <;> omega))))⟩) (by omega)).mono ?_
 rintro r B9 ⟨rfl, hE9⟩
 have v9 := hE9.size
 try simp only [AH.zN, AH.zP] at v9
 simp (maxSteps := 2000000) (disch := first | omega | (simp only [AH.zN, AH.zP] <;> omega) | fail) only [amR Tryd.prog ro X, amS, seval, reduceCtorEq, ty3, ty4, ty9, ty43, ty55, ty56, ty58, ty60, ty61, ty63, ty91, hbig1, hE1.get, hE2.get, hE3.get, hE4.get, hE5.get, hE6.get, hE7.get, hE8.get, hE9.get]
 refine (Law.mk_Space _ (by first | omega | (simp only [AH.zN, AH.zP] <;> omega)) t0k1x _ _ t0k2x _ _ (1) (q0k1x.ext (by ((repeat' (first | exact Ext.refl _ | assumption | refine Ext.trans ?_ (Ext.new _ _) | refine Ext.put ?_ ?_ _ | refine Ext.trans ?_ (by assumption))) <;> (first | omega | (simp only [AH.zN, AH.zP] <;> omega))))) (fun b hb => by have := f0x.lo b (by rw [hH0x]; simp [hb]); first | omega | (simp only [AH.zN, AH.zP] at this ⊢; omega) | (simp only [AH.zN, AH.zP] at this; omega)) (q0k2x.ext (by ((repeat' (first | exact Ext.refl _ | assumption | refine Ext.trans ?_ (Ext.new _ _) | refine Ext.put ?_ ?_ _ | refine Ext.trans ?_ (by assumption))) <;> (first | omega | (simp only [AH.zN, AH.zP] <;> omega))))) (fun b hb => by have := f0x.lo b (by rw [hH0x]; simp [hb]); first | omega | (simp only [AH.zN, AH.zP] at this ⊢; omega) | (simp only [AH.zN, AH.zP] at this; omega)) (by rw [← hH0x]; exact f0x.nodup) ⟨by omega, by omega⟩).mono ?_
 rintro r B10 ⟨rfl, a10k1, a10k2, hX10⟩
 have v10 := hX10.size
 try simp only [AH.zN, AH.zP] at v10
 have P10 := (fun b hb => f0x.both b (by rw [hH0x]; exact hb))
 have hK10 := hX10.out P10
 have EA10 : Ext A B10 := hX10.base P10 (by ((repeat' (first | exact Ext.refl _ | assumption | refine Ext.trans ?_ (Ext.new _ _) | refine Ext.put ?_ ?_ _ | refine Ext.trans ?_ (by assumption))) <;> (first | omega | (simp only [AH.zN, AH.zP] <;> omega)))) (by first | omega | (simp only [AH.zN, AH.zP] <;> omega))
 have EW10 : Ext B3 B10 := hX10.base P10 (by ((repeat' (first | exact Ext.refl _ | assumption | refine Ext.trans ?_ (Ext.new _ _) | refine Ext.put ?_ ?_ _ | refine Ext.trans ?_ (by assumption))) <;> (first | omega | (simp only [AH.zN, AH.zP] <;> omega)))) (by first | omega | (simp only [AH.zN, AH.zP] <;> omega))
 have pgk1zm10 := (pgk1.ext (by ((repeat' (first | exact Ext.refl _ | assumption | refine Ext.trans ?_ (Ext.new _ _) | refine Ext.put ?_ ?_ _ | refine Ext.trans ?_ (by assumption))) <;> (first | omega | (simp only [AH.zN, AH.zP] <;> omega))))).out hX10 P10 (fun b hb => .inr (by have := fg.lo b (by simp [hb]); first | omega | (simp only [AH.zN, AH.zP] at this ⊢; omega) | (simp only [AH.zN, AH.zP] at this; omega)))
 have pgk2zm10 := (pgk2.ext (by ((repeat' (first | exact Ext.refl _ | assumption | refine Ext.trans ?_ (Ext.new _ _) | refine Ext.put ?_ ?_ _ | refine Ext.trans ?_ (by assumption))) <;> (first | omega | (simp only [AH.zN, AH.zP] <;> omega))))).out hX10 P10 (fun b hb => .inr (by have := fg.lo b (by rw [hRg2]; simp [hb]); first | omega | (simp only [AH.zN, AH.zP] at this ⊢; omega) | (simp only [AH.zN, AH.zP] at this; omega)))
 have kn : ¬ (1 + (nmL x0.1 : Nat) + (nmL x0.2 : Nat) : Int) < 0 := by omega
 simp (disch := first | omega | fail) only [amR Tryd.prog ro X, amS, seval, reduceCtorEq, ty3, ty4, ty9, ty43, ty55, ty56, ty58, ty60, ty61, ty63, ty91, hbig1, hE1.get, hE2.get, hE3.get, hE4.get, hE5.get, hE6.get, hE7.get, hE8.get, hE9.get, hK10, kn]
 refine (Law.eqL_Seen _ (by first | omega | (simp only [AH.zN, AH.zP] <;> omega)) rgk1 rwk1 y.1 y.1 _ _ (pgk1zm10.ext (by ((repeat' (first | exact Ext.refl _ | assumption | refine Ext.trans ?_ (Ext.new _ _) | refine Ext.put ?_ ?_ _ | refine Ext.trans ?_ (by assumption))) <;> (first | omega | (simp only [AH.zN, AH.zP] <;> omega))))) (pwk1.ext (by ((repeat' (first | exact Ext.refl _ | assumption | refine Ext.trans ?_ (Ext.new _ _) | refine Ext.put ?_ ?_ _ | refine Ext.trans ?_ (by assumption))) <;> (first | omega | (simp only [AH.zN, AH.zP] <;> omega))))) (by omega)).mono ?_
 rintro r B11 ⟨rfl, hE11⟩
 have v11 := hE11.size
 try simp only [AH.zN, AH.zP] at v11
 simp (maxSteps := 2000000) (disch := first | omega | (simp only [AH.zN, AH.zP] <;> omega) | fail) only [amR Tryd.prog ro X, amS, seval, reduceCtorEq, ty3, ty4, ty9, ty43, ty55, ty56, ty58, ty60, ty61, ty63, ty91, hbig1, hE1.get, hE2.get, hE3.get, hE4.get, hE5.get, hE6.get, hE7.get, hE8.get, hE9.get, hK10, kn, hE11.get]
 refine (Law.eq_Result _ (by first | omega | (simp only [AH.zN, AH.zP] <;> omega)) y.2 y.2 _ _ _ _ (rep_Result.2 ⟨rgk2, _, rfl, rfl, ogz1k1, pgk2zm10.ext (by ((repeat' (first | exact Ext.refl _ | assumption | refine Ext.trans ?_ (Ext.new _ _) | refine Ext.put ?_ ?_ _ | refine Ext.trans ?_ (by assumption))) <;> (first | omega | (simp only [AH.zN, AH.zP] <;> omega))))⟩) (rep_Result.2 ⟨rwk2, _, rfl, rfl, owz1k1, pwk2.ext (by ((repeat' (first | exact Ext.refl _ | assumption | refine Ext.trans ?_ (Ext.new _ _) | refine Ext.put ?_ ?_ _ | refine Ext.trans ?_ (by assumption))) <;> (first | omega | (simp only [AH.zN, AH.zP] <;> omega))))⟩) (by omega)).mono ?_
 rintro r B12 ⟨rfl, hE12⟩
 have v12 := hE12.size
 try simp only [AH.zN, AH.zP] at v12
 simp (disch := first | omega | fail) only [amR Tryd.prog ro X, amS, seval, reduceCtorEq, ty3, ty4, ty9, ty43, ty55, ty56, ty58, ty60, ty61, ty63, ty91, hbig1, hE1.get, hE2.get, hE3.get, hE4.get, hE5.get, hE6.get, hE7.get, hE8.get, hE9.get, hK10, kn, hE11.get, hE12.get]
 have f1g : Fresh _ Fg1 _ := ⟨(List.nodup_append.1 fg.nodup).1, fun b hb => fg.lo b (by simp [hb]), fun b hb => fg.hi b (by simp [hb])⟩
 have f2g : Fresh _ Fg2 _ := ⟨(List.nodup_append.1 fg.nodup).2.1, fun b hb => fg.lo b (by simp [hb]), fun b hb => fg.hi b (by simp [hb])⟩
 refine (Law.mkL_Seen _ (by first | omega | (simp only [AH.zN, AH.zP] <;> omega)) rgk1 _ _ (pgk1zm10.ext (by ((repeat' (first | exact Ext.refl _ | assumption | refine Ext.trans ?_ (Ext.new _ _) | refine Ext.put ?_ ?_ _ | refine Ext.trans ?_ (by assumption))) <;> (first | omega | (simp only [AH.zN, AH.zP] <;> omega))))) (fun b hb => by have := f1g.lo b hb; first | omega | (simp only [AH.zN, AH.zP] at this ⊢; omega) | (simp only [AH.zN, AH.zP] at this; omega)) f1g.nodup (1) ⟨by omega, by omega⟩).mono ?_
 rintro r B13 ⟨rfl, a13k1, hX13⟩
 have v13 := hX13.size
 try simp only [AH.zN, AH.zP] at v13
 have P13 := f1g.both
 have hK13 := hX13.out P13
 have EA13 : Ext A B13 := hX13.base P13 (by ((repeat' (first | exact Ext.refl _ | assumption | refine Ext.trans ?_ (Ext.new _ _) | refine Ext.put ?_ ?_ _ | refine Ext.trans ?_ (by assumption))) <;> (first | omega | (simp only [AH.zN, AH.zP] <;> omega)))) (by first | omega | (simp only [AH.zN, AH.zP] <;> omega))
 have EW13 : Ext B3 B13 := hX13.base P13 (by ((repeat' (first | exact Ext.refl _ | assumption | refine Ext.trans ?_ (Ext.new _ _) | refine Ext.put ?_ ?_ _ | refine Ext.trans ?_ (by assumption))) <;> (first | omega | (simp only [AH.zN, AH.zP] <;> omega)))) (by first | omega | (simp only [AH.zN, AH.zP] <;> omega))
 have kr0 : ¬ (1 + (nmL y.1 : Nat) : Int) < 0 := by omega
 have pgk2zr13 := (pgk2zm10.ext (by ((repeat' (first | exact Ext.refl _ | assumption | refine Ext.trans ?_ (Ext.new _ _) | refine Ext.put ?_ ?_ _ | refine Ext.trans ?_ (by assumption))) <;> (first | omega | (simp only [AH.zN, AH.zP] <;> omega))))).extx hX13 (fun b hb hm => (List.nodup_append.1 fg.nodup).2.2 b (hm) b (by rw [hRg2]; simp [hb]) rfl)
 simp (maxSteps := 2000000) (disch := first | omega | (simp only [AH.zN, AH.zP] <;> omega) | fail) only [amR Tryd.prog ro X, amS, seval, reduceCtorEq, ty3, ty4, ty9, ty43, ty55, ty56, ty58, ty60, ty61, ty63, ty91, hbig1, hE1.get, hE2.get, hE3.get, hE4.get, hE5.get, hE6.get, hE7.get, hE8.get, hE9.get, hK10, kn, hE11.get, hE12.get, hK13, kr0]
 refine (Law.mk_Result _ (by first | omega | (simp only [AH.zN, AH.zP] <;> omega)) _ _ rgk2 _ _ (1 + (nmL y.1 : Nat)) (pgk2zr13.ext (by ((repeat' (first | exact Ext.refl _ | assumption | refine Ext.trans ?_ (Ext.new _ _) | refine Ext.put ?_ ?_ _ | refine Ext.trans ?_ (by assumption))) <;> (first | omega | (simp only [AH.zN, AH.zP] <;> omega))))) (fun b hb => by have := f2g.lo b (by rw [hRg2]; simp [hb]); first | omega | (simp only [AH.zN, AH.zP] at this ⊢; omega) | (simp only [AH.zN, AH.zP] at this; omega)) (by rw [← hRg2]; exact f2g.nodup) ⟨by omega, by omega⟩).mono ?_
 rintro r B14 ⟨rfl, a14k1, hX14⟩
 have v14 := hX14.size
 try simp only [AH.zN, AH.zP] at v14
 have P14 := (fun b hb => f2g.both b (by rw [hRg2]; exact hb))
 have hK14 := hX14.out P14
 have EA14 : Ext A B14 := hX14.base P14 (by ((repeat' (first | exact Ext.refl _ | assumption | refine Ext.trans ?_ (Ext.new _ _) | refine Ext.put ?_ ?_ _ | refine Ext.trans ?_ (by assumption))) <;> (first | omega | (simp only [AH.zN, AH.zP] <;> omega)))) (by first | omega | (simp only [AH.zN, AH.zP] <;> omega))
 have EW14 : Ext B3 B14 := hX14.base P14 (by ((repeat' (first | exact Ext.refl _ | assumption | refine Ext.trans ?_ (Ext.new _ _) | refine Ext.put ?_ ?_ _ | refine Ext.trans ?_ (by assumption))) <;> (first | omega | (simp only [AH.zN, AH.zP] <;> omega)))) (by first | omega | (simp only [AH.zN, AH.zP] <;> omega))
 have kr1 : ¬ (1 + (nmL y.1 : Nat) + (nmL y.2.2.2 : Nat) : Int) < 0 := by omega
 have a13k1c := (a13k1.ext (by ((repeat' (first | exact Ext.refl _ | assumption | refine Ext.trans ?_ (Ext.new _ _) | refine Ext.put ?_ ?_ _ | refine Ext.trans ?_ (by assumption))) <;> (first | omega | (simp only [AH.zN, AH.zP] <;> omega))))).extx hX14 (fun b hb hm => (List.nodup_append.1 fg.nodup).2.2 b (hb) b (by rw [hRg2]; exact hm) rfl)
 simp (disch := first | omega | fail) only [amR Tryd.prog ro X, amS, seval, reduceCtorEq, ty3, ty4, ty9, ty43, ty55, ty56, ty58, ty60, ty61, ty63, ty91, hbig1, hE1.get, hE2.get, hE3.get, hE4.get, hE5.get, hE6.get, hE7.get, hE8.get, hE9.get, hK10, kn, hE11.get, hE12.get, hK13, kr0, hK14, kr1]
 refine (Law.hdL_Seen _ (by first | omega | (simp only [AH.zN, AH.zP] <;> omega)) rgk1 _ _ (1) (a13k1c.ext (by ((repeat' (first | exact Ext.refl _ | assumption | refine Ext.trans ?_ (Ext.new _ _) | refine Ext.put ?_ ?_ _ | refine Ext.trans ?_ (by assumption))) <;> (first | omega | (simp only [AH.zN, AH.zP] <;> omega))))) ⟨by omega, by omega⟩).mono ?_
 rintro r B15 ⟨rfl, hE15⟩
 have v15 := hE15.size
 try simp only [AH.zN, AH.zP] at v15
 simp (maxSteps := 2000000) (disch := first | omega | (simp only [AH.zN, AH.zP] <;> omega) | fail) only [amR Tryd.prog ro X, amS, seval, reduceCtorEq, ty3, ty4, ty9, ty43, ty55, ty56, ty58, ty60, ty61, ty63, ty91, hbig1, hE1.get, hE2.get, hE3.get, hE4.get, hE5.get, hE6.get, hE7.get, hE8.get, hE9.get, hK10, kn, hE11.get, hE12.get, hK13, kr0, hK14, kr1, hE15.get]
 refine (Law.hd_Result _ (by first | omega | (simp only [AH.zN, AH.zP] <;> omega)) _ _ rgk2 _ _ (1 + (nmL y.1 : Nat)) (a14k1.ext (by ((repeat' (first | exact Ext.refl _ | assumption | refine Ext.trans ?_ (Ext.new _ _) | refine Ext.put ?_ ?_ _ | refine Ext.trans ?_ (by assumption))) <;> (first | omega | (simp only [AH.zN, AH.zP] <;> omega))))) ⟨by omega, by omega⟩).mono ?_
 rintro r B16 ⟨rfl, hE16⟩
 have v16 := hE16.size
 try simp only [AH.zN, AH.zP] at v16
 simp (maxSteps := 2000000) (disch := first | omega | (simp only [AH.zN, AH.zP] <;> omega) | fail) only [amR Tryd.prog ro X, amS, seval, reduceCtorEq, ty3, ty4, ty9, ty43, ty55, ty56, ty58, ty60, ty61, ty63, ty91, hbig1, hE1.get, hE2.get, hE3.get, hE4.get, hE5.get, hE6.get, hE7.get, hE8.get, hE9.get, hK10, kn, hE11.get, hE12.get, hK13, kr0, hK14, kr1, hE15.get, hE16.get]
 refine (Law.to_Space _ (by first | omega | (simp only [AH.zN, AH.zP] <;> omega)) x0 _ _ (Dat.ext h0 (by ((repeat' (first | exact Ext.refl _ | assumption | refine Ext.trans ?_ (Ext.new _ _) | refine Ext.put ?_ ?_ _ | refine Ext.trans ?_ (by assumption))) <;> (first | omega | (simp only [AH.zN, AH.zP] <;> omega))))) (by omega)).mono ?_
 rintro r B17 ⟨cc, H0z, rfl, qq, f0z, hE17⟩
 obtain ⟨t0k1z, t0k2z, G0k1z, G0k2z, rfl, hH0z, q0k1z, q0k2z⟩ := rep_Space.1 qq
 have v17 := hE17.size
 try simp only [AH.zN, AH.zP] at v17
 simp (disch := first | omega | fail) only [amR Tryd.prog ro X, amS, seval, reduceCtorEq, ty3, ty4, ty9, ty43, ty55, ty56, ty58, ty60, ty61, ty63, ty91, hbig1, hE1.get, hE2.get, hE3.get, hE4.get, hE5.get, hE6.get, hE7.get, hE8.get, hE9.get, hK10, kn, hE11.get, hE12.get, hK13, kr0, hK14, kr1, hE15.get, hE16.get, hE17.get]
 refine (Trail.impl_a hXD _ (by first | omega | (simp only [AH.zN, AH.zP] <;> omega)) (hT.ext (by ((repeat' (first | exact Ext.refl _ | assumption | refine Ext.trans ?_ (Ext.new _ _) | refine Ext.put ?_ ?_ _ | refine Ext.trans ?_ (by assumption))) <;> (first | omega | (simp only [AH.zN, AH.zP] <;> omega))))) (hP.ext (by ((repeat' (first | exact Ext.refl _ | assumption | refine Ext.trans ?_ (Ext.new _ _) | refine Ext.put ?_ ?_ _ | refine Ext.trans ?_ (by assumption))) <;> (first | omega | (simp only [AH.zN, AH.zP] <;> omega))))) t0k1z t0k2z x0 _ _ (q0k1z.ext (by ((repeat' (first | exact Ext.refl _ | assumption | refine Ext.trans ?_ (Ext.new _ _) | refine Ext.put ?_ ?_ _ | refine Ext.trans ?_ (by assumption))) <;> (first | omega | (simp only [AH.zN, AH.zP] <;> omega))))) (q0k2z.ext (by ((repeat' (first | exact Ext.refl _ | assumption | refine Ext.trans ?_ (Ext.new _ _) | refine Ext.put ?_ ?_ _ | refine Ext.trans ?_ (by assumption))) <;> (first | omega | (simp only [AH.zN, AH.zP] <;> omega))))) (by have := b0.1.1; omega) (by have := b0.2.1; omega) x1).mono ?_
 rintro r B18 ⟨rhk1, Fh1, cc2, Fh2, rfl, phk1, qq2, fh, hE18⟩
 rw [← hy] at phk1 qq2
 obtain ⟨rhk2, Rhk2, rfl, hRh2, ohz1k1, phk2⟩ := rep_Result.1 qq2
 have v18 := hE18.size
 try simp only [AH.zN, AH.zP] at v18
 simp (disch := first | omega | fail) only [amR Tryd.prog ro X, amS, seval, reduceCtorEq, ty3, ty4, ty9, ty43, ty55, ty56, ty58, ty60, ty61, ty63, ty91, hbig1, hE1.get, hE2.get, hE3.get, hE4.get, hE5.get, hE6.get, hE7.get, hE8.get, hE9.get, hK10, kn, hE11.get, hE12.get, hK13, kr0, hK14, kr1, hE15.get, hE16.get, hE17.get, hE18.get]
 refine (Law.eqL_Seen _ (by first | omega | (simp only [AH.zN, AH.zP] <;> omega)) rhk1 rwk1 y.1 y.1 _ _ (phk1.ext (by ((repeat' (first | exact Ext.refl _ | assumption | refine Ext.trans ?_ (Ext.new _ _) | refine Ext.put ?_ ?_ _ | refine Ext.trans ?_ (by assumption))) <;> (first | omega | (simp only [AH.zN, AH.zP] <;> omega))))) (pwk1.ext (by ((repeat' (first | exact Ext.refl _ | assumption | refine Ext.trans ?_ (Ext.new _ _) | refine Ext.put ?_ ?_ _ | refine Ext.trans ?_ (by assumption))) <;> (first | omega | (simp only [AH.zN, AH.zP] <;> omega))))) (by omega)).mono ?_
 rintro r B19 ⟨rfl, hE19⟩
 have v19 := hE19.size
 try simp only [AH.zN, AH.zP] at v19
 simp (maxSteps := 2000000) (disch := first | omega | (simp only [AH.zN, AH.zP] <;> omega) | fail) only [amR Tryd.prog ro X, amS, seval, reduceCtorEq, ty3, ty4, ty9, ty43, ty55, ty56, ty58, ty60, ty61, ty63, ty91, hbig1, hE1.get, hE2.get, hE3.get, hE4.get, hE5.get, hE6.get, hE7.get, hE8.get, hE9.get, hK10, kn, hE11.get, hE12.get, hK13, kr0, hK14, kr1, hE15.get, hE16.get, hE17.get, hE18.get, hE19.get]
 refine (Law.eq_Result _ (by first | omega | (simp only [AH.zN, AH.zP] <;> omega)) y.2 y.2 _ _ _ _ (rep_Result.2 ⟨rhk2, _, rfl, rfl, ohz1k1, phk2.ext (by ((repeat' (first | exact Ext.refl _ | assumption | refine Ext.trans ?_ (Ext.new _ _) | refine Ext.put ?_ ?_ _ | refine Ext.trans ?_ (by assumption))) <;> (first | omega | (simp only [AH.zN, AH.zP] <;> omega))))⟩) (rep_Result.2 ⟨rwk2, _, rfl, rfl, owz1k1, pwk2.ext (by ((repeat' (first | exact Ext.refl _ | assumption | refine Ext.trans ?_ (Ext.new _ _) | refine Ext.put ?_ ?_ _ | refine Ext.trans ?_ (by assumption))) <;> (first | omega | (simp only [AH.zN, AH.zP] <;> omega))))⟩) (by omega)).mono ?_
 rintro r B20 ⟨rfl, hE20⟩
 have v20 := hE20.size
 try simp only [AH.zN, AH.zP] at v20
 simp (disch := first | omega | fail) only [amR Tryd.prog ro X, amS, seval, reduceCtorEq, ty3, ty4, ty9, ty43, ty55, ty56, ty58, ty60, ty61, ty63, ty91, hbig1, hE1.get, hE2.get, hE3.get, hE4.get, hE5.get, hE6.get, hE7.get, hE8.get, hE9.get, hK10, kn, hE11.get, hE12.get, hK13, kr0, hK14, kr1, hE15.get, hE16.get, hE17.get, hE18.get, hE19.get, hE20.get]
 refine (Law.hdL_Seen _ (by first | omega | (simp only [AH.zN, AH.zP] <;> omega)) rgk1 _ _ (1) (a13k1c.ext (by ((repeat' (first | exact Ext.refl _ | assumption | refine Ext.trans ?_ (Ext.new _ _) | refine Ext.put ?_ ?_ _ | refine Ext.trans ?_ (by assumption))) <;> (first | omega | (simp only [AH.zN, AH.zP] <;> omega))))) ⟨by omega, by omega⟩).mono ?_
 rintro r B21 ⟨rfl, hE21⟩
 have v21 := hE21.size
 try simp only [AH.zN, AH.zP] at v21
 simp (maxSteps := 2000000) (disch := first | omega | (simp only [AH.zN, AH.zP] <;> omega) | fail) only [amR Tryd.prog ro X, amS, seval, reduceCtorEq, ty3, ty4, ty9, ty43, ty55, ty56, ty58, ty60, ty61, ty63, ty91, hbig1, hE1.get, hE2.get, hE3.get, hE4.get, hE5.get, hE6.get, hE7.get, hE8.get, hE9.get, hK10, kn, hE11.get, hE12.get, hK13, kr0, hK14, kr1, hE15.get, hE16.get, hE17.get, hE18.get, hE19.get, hE20.get, hE21.get]
 refine (Law.hd_Result _ (by first | omega | (simp only [AH.zN, AH.zP] <;> omega)) _ _ rgk2 _ _ (1 + (nmL y.1 : Nat)) (a14k1.ext (by ((repeat' (first | exact Ext.refl _ | assumption | refine Ext.trans ?_ (Ext.new _ _) | refine Ext.put ?_ ?_ _ | refine Ext.trans ?_ (by assumption))) <;> (first | omega | (simp only [AH.zN, AH.zP] <;> omega))))) ⟨by omega, by omega⟩).mono ?_
 rintro r B22 ⟨rfl, hE22⟩
 have v22 := hE22.size
 try simp only [AH.zN, AH.zP] at v22
 simp (disch := first | omega | fail) only [amR Tryd.prog ro X, amS, seval, reduceCtorEq, ty3, ty4, ty9, ty43, ty55, ty56, ty58, ty60, ty61, ty63, ty91, hbig1, hE1.get, hE2.get, hE3.get, hE4.get, hE5.get, hE6.get, hE7.get, hE8.get, hE9.get, hK10, kn, hE11.get, hE12.get, hK13, kr0, hK14, kr1, hE15.get, hE16.get, hE17.get, hE18.get, hE19.get, hE20.get, hE21.get, hE22.get]
end Go.Proofs.YtmelgjblkmbhjaaDoor.Amu.LTrail
