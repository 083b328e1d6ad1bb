import Derived.Test.YtjlbcofopapajaaDoorAmuTy
import Derived.Test.YtjlbcofopapajaaDoorAmuPutSI
import Derived.Test.YtjlbcofopapajaaDoorAmuPutSS
import Derived.Test.YtjlbcofopapajaaDoorAmuLawA
import Derived.Test.YtjlbcofopapajaaDoorAmuSort
import Derived.Test.YtjlbcofopapajaaDoorAmuLawB
namespace Go.Proofs.YtjlbcofopapajaaDoor.Amu.LPutSource
open Go Go.AM Go.Proofs
set_option linter.all false
set_option maxHeartbeats 4000000
open Ty
variable {ro : Nat} {X : FuncId → List Value → AH → ARes → AH → Prop}
set_option maxRecDepth 10000
theorem law_a (A : AH) (hro : ro ≤ A.size) (hT : Tab 0 A) (hXS : ∀ f args A r A', SortX 80 [(50, 81, 0)] ro f args A r A' → X f args A r A') (x0 : TSpace) (c0 : List Value) (F0 : List Nat) (h0 : Dat.rep A x0 c0 F0) (b0 : Mk.bd x0) (x1 : ByteArray) (hx1 : x1.size < 4611686018427387904) (x2 : ByteArray) (hx2 : x2.size < 4611686018427387904) :
 ACalls Tryd.prog ro X 5 [.agg c0.toArray, .string x1, .string x2] A (fun r _ => r = .ret (.bool true)) := by
 refine ACalls.enterQ (rs := [.tmp 6]) Tryd.func5 rfl (by kernel_rfl) rfl ?_
 have hh0 := h0
 obtain ⟨w0k1, w0k2, _, _, rfl, _, _, _⟩ := rep_Space.1 hh0
 by_cases hbig1 : (1048576 : Int) < x1.size
 ·simp (maxSteps := 2000000) (disch := first | omega | (simp only [AH.zN, AH.zP] <;> omega) | fail) only [amR Tryd.prog ro X, amS, seval, reduceCtorEq, ty3, ty4, ty9, ty45, ty46, ty48, ty50, ty51, ty53, hbig1]
 by_cases hbig2 : (1048576 : Int) < x2.size
 ·simp (maxSteps := 2000000) (disch := first | omega | (simp only [AH.zN, AH.zP] <;> omega) | fail) only [amR Tryd.prog ro X, amS, seval, reduceCtorEq, ty3, ty4, ty9, ty45, ty46, ty48, ty50, ty51, ty53, hbig1, hbig2]
 simp (maxSteps := 2000000) (disch := first | omega | (simp only [AH.zN, AH.zP] <;> omega) | fail) only [amR Tryd.prog ro X, amS, seval, reduceCtorEq, ty3, ty4, ty9, ty45, ty46, ty48, ty50, ty51, ty53, hbig1, hbig2]
 refine (Law.sz_Space _ (by first | omega | (simp only [AH.zN, AH.zP] <;> omega)) x0 _ _ (Dat.ext h0 (by ((repeat' (first | exact Ext.refl _ | assumption | refine Ext.trans ?_ (Ext.new _ _) | refine Ext.put ?_ ?_ _ | refine Ext.trans ?_ (by assumption))) <;> (first | omega | (simp only [AH.zN, AH.zP] <;> omega))))) b0 (1048576) (by omega)).mono ?_
 rintro r B1 ⟨rfl, hE1⟩
 have v1 := hE1.size
 try simp only [AH.zN, AH.zP] at v1
 by_cases z0 : 1048576 - (Mk.sz x0 : Nat) < (0 : Int)
 ·rw [szR_neg z0]
  simp (maxSteps := 2000000) (disch := first | omega | (simp only [AH.zN, AH.zP] <;> omega) | fail) only [amR Tryd.prog ro X, amS, seval, reduceCtorEq, ty3, ty4, ty9, ty45, ty46, ty48, ty50, ty51, ty53, hbig1, hbig2, hE1.get]
 rw [szR_pos z0]
 simp (maxSteps := 2000000) (disch := first | omega | (simp only [AH.zN, AH.zP] <;> omega) | fail) only [amR Tryd.prog ro X, amS, seval, reduceCtorEq, ty3, ty4, ty9, ty45, ty46, ty48, ty50, ty51, ty53, hbig1, hbig2, hE1.get, z0]
 have hq0 : Mk.sz x0 = szL Mk.sz x0.1 + szL Mk.sz x0.2 := rfl
 have hl0 := szL_length Mk.sz x0.1
 have hl1 := szL_length Mk.sz x0.2
 have hpp : ∀ t ∈ x0.2, t.2.length < 4294967296 := fun t ht => by have := mem_sz ht; omega
 obtain ⟨y, hy⟩ : ∃ y, y = (putSrcR x0 x1 x2).1 := ⟨_, rfl⟩
 have ysz : Mk.sz y < 1073741824 := by
  rw [hy]
  have := putSrcR_sz x0 x1 x2
  omega
 have ye1 : Mk.sz y = Mk.sz y.1 + Mk.sz y.2 := rfl
 have yl1 : Mk.sz y.1 = szL Mk.sz y.1 := rfl
 have yn1 := nmL_Source y.1
 have yl2 : Mk.sz y.2 = szL Mk.sz y.2 := rfl
 have yn2 := nmL_Target y.2
 have m0e1 : Mk.sz x0 = Mk.sz x0.1 + Mk.sz x0.2 := rfl
 have m0l1 : Mk.sz x0.1 = szL Mk.sz x0.1 := rfl
 have m0n1 := nmL_Source x0.1
 have m0l2 : Mk.sz x0.2 = szL Mk.sz x0.2 := rfl
 have m0n2 := nmL_Target x0.2
 refine (Law.to_Space _ (by first | omega | (simp only [AH.zN, AH.zP] <;> omega)) x0 _ _ (Dat.ext h0 (by ((repeat' (first | exact Ext.refl _ | assumption | refine Ext.trans ?_ (Ext.new _ _) | refine Ext.put ?_ ?_ _ | refine Ext.trans ?_ (by assumption))) <;> (first | omega | (simp only [AH.zN, AH.zP] <;> omega))))) (by omega)).mono ?_
 rintro r B2 ⟨cc, H0w, rfl, qq, f0w, hE2⟩
 obtain ⟨t0k1w, t0k2w, G0k1w, G0k2w, rfl, hH0w, q0k1w, q0k2w⟩ := rep_Space.1 qq
 have v2 := hE2.size
 try simp only [AH.zN, AH.zP] at v2
 simp (maxSteps := 2000000) (disch := first | omega | (simp only [AH.zN, AH.zP] <;> omega) | fail) only [amR Tryd.prog ro X, amS, seval, reduceCtorEq, ty3, ty4, ty9, ty45, ty46, ty48, ty50, ty51, ty53, hbig1, hbig2, hE1.get, hE2.get]
 refine (PutSS.specSrc_a _ (by first | omega | (simp only [AH.zN, AH.zP] <;> omega)) t0k1w t0k2w x0 _ _ (q0k1w.ext (by ((repeat' (first | exact Ext.refl _ | assumption | refine Ext.trans ?_ (Ext.new _ _) | refine Ext.put ?_ ?_ _ | refine Ext.trans ?_ (by assumption))) <;> (first | omega | (simp only [AH.zN, AH.zP] <;> omega))))) (q0k2w.ext (by ((repeat' (first | exact Ext.refl _ | assumption | refine Ext.trans ?_ (Ext.new _ _) | refine Ext.put ?_ ?_ _ | refine Ext.trans ?_ (by assumption))) <;> (first | omega | (simp only [AH.zN, AH.zP] <;> omega))))) (by omega) (by omega) hpp x1 x2 (by unfold BIG; omega) (by unfold BIG; omega)).mono ?_
 rintro r B3 ⟨cc, Fw, rfl, qq, _, hE3⟩
 rw [← hy] at qq
 have bdw := Dat.bound qq
 obtain ⟨rwk1, rwk2, Rwk1, Rwk2, rfl, hRw, pwk1, pwk2⟩ := rep_Space.1 qq
 have v3 := hE3.size
 try simp only [AH.zN, AH.zP] at v3
 simp (maxSteps := 2000000) (disch := first | omega | (simp only [AH.zN, AH.zP] <;> omega) | fail) only [amR Tryd.prog ro X, amS, seval, reduceCtorEq, ty3, ty4, ty9, ty45, ty46, ty48, ty50, ty51, ty53, hbig1, hbig2, hE1.get, hE2.get, hE3.get]
 refine (Law.to_Space _ (by first | omega | (simp only [AH.zN, AH.zP] <;> omega)) x0 _ _ (Dat.ext h0 (by ((repeat' (first | exact Ext.refl _ | assumption | refine Ext.trans ?_ (Ext.new _ _) | refine Ext.put ?_ ?_ _ | refine Ext.trans ?_ (by assumption))) <;> (first | omega | (simp only [AH.zN, AH.zP] <;> omega))))) (by omega)).mono ?_
 rintro r B4 ⟨cc, H0x, rfl, qq, f0x, hE4⟩
 obtain ⟨t0k1x, t0k2x, G0k1x, G0k2x, rfl, hH0x, q0k1x, q0k2x⟩ := rep_Space.1 qq
 have v4 := hE4.size
 try simp only [AH.zN, AH.zP] at v4
 simp (maxSteps := 2000000) (disch := first | omega | (simp only [AH.zN, AH.zP] <;> omega) | fail) only [amR Tryd.prog ro X, amS, seval, reduceCtorEq, ty3, ty4, ty9, ty45, ty46, ty48, ty50, ty51, ty53, hbig1, hbig2, hE1.get, hE2.get, hE3.get, hE4.get]
 refine (PutSI.implSrc_a hXS _ (by first | omega | (simp only [AH.zN, AH.zP] <;> omega)) (hT.ext (by ((repeat' (first | exact Ext.refl _ | assumption | refine Ext.trans ?_ (Ext.new _ _) | refine Ext.put ?_ ?_ _ | refine Ext.trans ?_ (by assumption))) <;> (first | omega | (simp only [AH.zN, AH.zP] <;> omega))))) t0k1x t0k2x x0 _ _ (q0k1x.ext (by ((repeat' (first | exact Ext.refl _ | assumption | refine Ext.trans ?_ (Ext.new _ _) | refine Ext.put ?_ ?_ _ | refine Ext.trans ?_ (by assumption))) <;> (first | omega | (simp only [AH.zN, AH.zP] <;> omega))))) (q0k2x.ext (by ((repeat' (first | exact Ext.refl _ | assumption | refine Ext.trans ?_ (Ext.new _ _) | refine Ext.put ?_ ?_ _ | refine Ext.trans ?_ (by assumption))) <;> (first | omega | (simp only [AH.zN, AH.zP] <;> omega))))) (by omega) (by omega) hpp x1 x2 (by unfold BIG; omega) (by unfold BIG; omega)).mono ?_
 rintro r B5 ⟨cc, Fg, rfl, qq, fg, hE5⟩
 rw [← hy] at qq
 obtain ⟨rgk1, rgk2, Rgk1, Rgk2, rfl, hRg, pgk1, pgk2⟩ := rep_Space.1 qq
 have v5 := hE5.size
 try simp only [AH.zN, AH.zP] at v5
 simp (maxSteps := 2000000) (disch := first | omega | (simp only [AH.zN, AH.zP] <;> omega) | fail) only [amR Tryd.prog ro X, amS, seval, reduceCtorEq, ty3, ty4, ty9, ty45, ty46, ty48, ty50, ty51, ty53, hbig1, hbig2, hE1.get, hE2.get, hE3.get, hE4.get, hE5.get]
 refine (Law.eq_Space _ (by first | omega | (simp only [AH.zN, AH.zP] <;> omega)) y y _ _ _ _ (rep_Space.2 ⟨rgk1, rgk2, _, _, rfl, rfl, pgk1.ext (by ((repeat' (first | exact Ext.refl _ | assumption | refine Ext.trans ?_ (Ext.new _ _) | refine Ext.put ?_ ?_ _ | refine Ext.trans ?_ (by assumption))) <;> (first | omega | (simp only [AH.zN, AH.zP] <;> omega)))), pgk2.ext (by ((repeat' (first | exact Ext.refl _ | assumption | refine Ext.trans ?_ (Ext.new _ _) | refine Ext.put ?_ ?_ _ | refine Ext.trans ?_ (by assumption))) <;> (first | omega | (simp only [AH.zN, AH.zP] <;> omega))))⟩) (rep_Space.2 ⟨rwk1, rwk2, _, _, rfl, rfl, pwk1.ext (by ((repeat' (first | exact Ext.refl _ | assumption | refine Ext.trans ?_ (Ext.new _ _) | refine Ext.put ?_ ?_ _ | refine Ext.trans ?_ (by assumption))) <;> (first | omega | (simp only [AH.zN, AH.zP] <;> omega)))), pwk2.ext (by ((repeat' (first | exact Ext.refl _ | assumption | refine Ext.trans ?_ (Ext.new _ _) | refine Ext.put ?_ ?_ _ | refine Ext.trans ?_ (by assumption))) <;> (first | omega | (simp only [AH.zN, AH.zP] <;> omega))))⟩) (by omega)).mono ?_
 rintro r B6 ⟨rfl, hE6⟩
 have v6 := hE6.size
 try simp only [AH.zN, AH.zP] at v6
 simp (maxSteps := 2000000) (disch := first | omega | (simp only [AH.zN, AH.zP] <;> omega) | fail) only [amR Tryd.prog ro X, amS, seval, reduceCtorEq, ty3, ty4, ty9, ty45, ty46, ty48, ty50, ty51, ty53, hbig1, hbig2, hE1.get, hE2.get, hE3.get, hE4.get, hE5.get, hE6.get]
 refine Wp.runG [2] (by kernel_rfl) (.inl (by kernel_rfl)) ?_
 simp (maxSteps := 2000000) (disch := first | omega | (simp only [AH.zN, AH.zP] <;> omega) | fail) only [amR Tryd.prog ro X, amS, seval, reduceCtorEq, ty3, ty4, ty9, ty45, ty46, ty48, ty50, ty51, ty53, hbig1, hbig2, hE1.get, hE2.get, hE3.get, hE4.get, hE5.get, hE6.get]
 refine (Law.to_Space _ (by first | omega | (simp only [AH.zN, AH.zP] <;> omega)) x0 _ _ (Dat.ext h0 (by ((repeat' (first | exact Ext.refl _ | assumption | refine Ext.trans ?_ (Ext.new _ _) | refine Ext.put ?_ ?_ _ | refine Ext.trans ?_ (by assumption))) <;> (first | omega | (simp only [AH.zN, AH.zP] <;> omega))))) (by omega)).mono ?_
 rintro r B7 ⟨cc, H0y, rfl, qq, f0y, hE7⟩
 obtain ⟨t0k1y, t0k2y, G0k1y, G0k2y, rfl, hH0y, q0k1y, q0k2y⟩ := rep_Space.1 qq
 have v7 := hE7.size
 try simp only [AH.zN, AH.zP] at v7
 simp (maxSteps := 2000000) (disch := first | omega | (simp only [AH.zN, AH.zP] <;> omega) | fail) only [amR Tryd.prog ro X, amS, seval, reduceCtorEq, ty3, ty4, ty9, ty45, ty46, ty48, ty50, ty51, ty53, hbig1, hbig2, hE1.get, hE2.get, hE3.get, hE4.get, hE5.get, hE6.get]
 refine ⟨fun b hb => hE7.get b hb, ?_⟩
 try simp (maxSteps := 2000000) (disch := first | omega | (simp only [AH.zN, AH.zP] <;> omega) | fail) only [amR Tryd.prog ro X, amS, seval, reduceCtorEq, ty3, ty4, ty9, ty45, ty46, ty48, ty50, ty51, ty53, hbig1, hbig2, hE1.get, hE2.get, hE3.get, hE4.get, hE5.get, hE6.get, hE7.get]
 refine (Law.eq_Space _ (by first | omega | (simp only [AH.zN, AH.zP] <;> omega)) x0 x0 _ _ _ _ (rep_Space.2 ⟨t0k1x, t0k2x, _, _, rfl, rfl, q0k1x.ext (by ((repeat' (first | exact Ext.refl _ | assumption | refine Ext.trans ?_ (Ext.new _ _) | refine Ext.put ?_ ?_ _ | refine Ext.trans ?_ (by assumption))) <;> (first | omega | (simp only [AH.zN, AH.zP] <;> omega)))), q0k2x.ext (by ((repeat' (first | exact Ext.refl _ | assumption | refine Ext.trans ?_ (Ext.new _ _) | refine Ext.put ?_ ?_ _ | refine Ext.trans ?_ (by assumption))) <;> (first | omega | (simp only [AH.zN, AH.zP] <;> omega))))⟩) (rep_Space.2 ⟨t0k1y, t0k2y, _, _, rfl, rfl, q0k1y.ext (by ((repeat' (first | exact Ext.refl _ | assumption | refine Ext.trans ?_ (Ext.new _ _) | refine Ext.put ?_ ?_ _ | refine Ext.trans ?_ (by assumption))) <;> (first | omega | (simp only [AH.zN, AH.zP] <;> omega)))), q0k2y.ext (by ((repeat' (first | exact Ext.refl _ | assumption | refine Ext.trans ?_ (Ext.new _ _) | refine Ext.put ?_ ?_ _ | refine Ext.trans ?_ (by assumption))) <;> (first | omega | (simp only [AH.zN, AH.zP] <;> omega))))⟩) (by omega)).mono ?_
 rintro r B8 ⟨rfl, hE8⟩
 have v8 := hE8.size
 try simp only [AH.zN, AH.zP] at v8
 simp (maxSteps := 2000000) (disch := first | omega | (simp only [AH.zN, AH.zP] <;> omega) | fail) only [amR Tryd.prog ro X, amS, seval, reduceCtorEq, ty3, ty4, ty9, ty45, ty46, ty48, ty50, ty51, ty53, hbig1, hbig2, hE1.get, hE2.get, hE3.get, hE4.get, hE5.get, hE6.get, hE7.get, hE8.get]
 refine (Law.mk_Space _ (by first | omega | (simp only [AH.zN, AH.zP] <;> omega)) t0k1x _ _ t0k2x _ _ (1) (q0k1x.ext (by ((repeat' (first | exact Ext.refl _ | assumption | refine Ext.trans ?_ (Ext.new _ _) | refine Ext.put ?_ ?_ _ | refine Ext.trans ?_ (by assumption))) <;> (first | omega | (simp only [AH.zN, AH.zP] <;> omega))))) (fun b hb => by have := f0x.lo b (by rw [hH0x]; simp [hb]); first | omega | (simp only [AH.zN, AH.zP] at this ⊢; omega) | (simp only [AH.zN, AH.zP] at this; omega)) (q0k2x.ext (by ((repeat' (first | exact Ext.refl _ | assumption | refine Ext.trans ?_ (Ext.new _ _) | refine Ext.put ?_ ?_ _ | refine Ext.trans ?_ (by assumption))) <;> (first | omega | (simp only [AH.zN, AH.zP] <;> omega))))) (fun b hb => by have := f0x.lo b (by rw [hH0x]; simp [hb]); first | omega | (simp only [AH.zN, AH.zP] at this ⊢; omega) | (simp only [AH.zN, AH.zP] at this; omega)) (by rw [← hH0x]; exact f0x.nodup) ⟨by omega, by omega⟩).mono ?_
 rintro r B9 ⟨rfl, a9k1, a9k2, hX9⟩
 have v9 := hX9.size
 try simp only [AH.zN, AH.zP] at v9
 have P9 := (fun b hb => f0x.both b (by rw [hH0x]; exact hb))
 have hK9 := hX9.out P9
 have EA9 : Ext A B9 := hX9.base P9 (by ((repeat' (first | exact Ext.refl _ | assumption | refine Ext.trans ?_ (Ext.new _ _) | refine Ext.put ?_ ?_ _ | refine Ext.trans ?_ (by assumption))) <;> (first | omega | (simp only [AH.zN, AH.zP] <;> omega)))) (by first | omega | (simp only [AH.zN, AH.zP] <;> omega))
 have EW9 : Ext B3 B9 := hX9.base P9 (by ((repeat' (first | exact Ext.refl _ | assumption | refine Ext.trans ?_ (Ext.new _ _) | refine Ext.put ?_ ?_ _ | refine Ext.trans ?_ (by assumption))) <;> (first | omega | (simp only [AH.zN, AH.zP] <;> omega)))) (by first | omega | (simp only [AH.zN, AH.zP] <;> omega))
 have pgk1zm9 := (pgk1.ext (by ((repeat' (first | exact Ext.refl _ | assumption | refine Ext.trans ?_ (Ext.new _ _) | refine Ext.put ?_ ?_ _ | refine Ext.trans ?_ (by assumption))) <;> (first | omega | (simp only [AH.zN, AH.zP] <;> omega))))).out hX9 P9 (fun b hb => .inr (by have := fg.lo b (by rw [hRg]; simp [hb]); first | omega | (simp only [AH.zN, AH.zP] at this ⊢; omega) | (simp only [AH.zN, AH.zP] at this; omega)))
 have pgk2zm9 := (pgk2.ext (by ((repeat' (first | exact Ext.refl _ | assumption | refine Ext.trans ?_ (Ext.new _ _) | refine Ext.put ?_ ?_ _ | refine Ext.trans ?_ (by assumption))) <;> (first | omega | (simp only [AH.zN, AH.zP] <;> omega))))).out hX9 P9 (fun b hb => .inr (by have := fg.lo b (by rw [hRg]; simp [hb]); first | omega | (simp only [AH.zN, AH.zP] at this ⊢; omega) | (simp only [AH.zN, AH.zP] at this; omega)))
 have kn : ¬ (1 + (nmL x0.1 : Nat) + (nmL x0.2 : Nat) : Int) < 0 := by omega
 simp (maxSteps := 2000000) (disch := first | omega | (simp only [AH.zN, AH.zP] <;> omega) | fail) only [amR Tryd.prog ro X, amS, seval, reduceCtorEq, ty3, ty4, ty9, ty45, ty46, ty48, ty50, ty51, ty53, hbig1, hbig2, hE1.get, hE2.get, hE3.get, hE4.get, hE5.get, hE6.get, hE7.get, hE8.get, hK9, kn]
 refine (Law.eq_Space _ (by first | omega | (simp only [AH.zN, AH.zP] <;> omega)) y y _ _ _ _ (rep_Space.2 ⟨rgk1, rgk2, _, _, rfl, rfl, pgk1zm9.ext (by ((repeat' (first | exact Ext.refl _ | assumption | refine Ext.trans ?_ (Ext.new _ _) | refine Ext.put ?_ ?_ _ | refine Ext.trans ?_ (by assumption))) <;> (first | omega | (simp only [AH.zN, AH.zP] <;> omega)))), pgk2zm9.ext (by ((repeat' (first | exact Ext.refl _ | assumption | refine Ext.trans ?_ (Ext.new _ _) | refine Ext.put ?_ ?_ _ | refine Ext.trans ?_ (by assumption))) <;> (first | omega | (simp only [AH.zN, AH.zP] <;> omega))))⟩) (rep_Space.2 ⟨rwk1, rwk2, _, _, rfl, rfl, pwk1.ext (by ((repeat' (first | exact Ext.refl _ | assumption | refine Ext.trans ?_ (Ext.new _ _) | refine Ext.put ?_ ?_ _ | refine Ext.trans ?_ (by assumption))) <;> (first | omega | (simp only [AH.zN, AH.zP] <;> omega)))), pwk2.ext (by ((repeat' (first | exact Ext.refl _ | assumption | refine Ext.trans ?_ (Ext.new _ _) | refine Ext.put ?_ ?_ _ | refine Ext.trans ?_ (by assumption))) <;> (first | omega | (simp only [AH.zN, AH.zP] <;> omega))))⟩) (by omega)).mono ?_
 rintro r B10 ⟨rfl, hE10⟩
 have v10 := hE10.size
 try simp only [AH.zN, AH.zP] at v10
 simp (maxSteps := 2000000) (disch := first | omega | (simp only [AH.zN, AH.zP] <;> omega) | fail) only [amR Tryd.prog ro X, amS, seval, reduceCtorEq, ty3, ty4, ty9, ty45, ty46, ty48, ty50, ty51, ty53, hbig1, hbig2, hE1.get, hE2.get, hE3.get, hE4.get, hE5.get, hE6.get, hE7.get, hE8.get, hK9, kn, hE10.get]
 refine (Law.mk_Space _ (by first | omega | (simp only [AH.zN, AH.zP] <;> omega)) rgk1 _ _ rgk2 _ _ (1) (pgk1zm9.ext (by ((repeat' (first | exact Ext.refl _ | assumption | refine Ext.trans ?_ (Ext.new _ _) | refine Ext.put ?_ ?_ _ | refine Ext.trans ?_ (by assumption))) <;> (first | omega | (simp only [AH.zN, AH.zP] <;> omega))))) (fun b hb => by have := fg.lo b (by rw [hRg]; simp [hb]); first | omega | (simp only [AH.zN, AH.zP] at this ⊢; omega) | (simp only [AH.zN, AH.zP] at this; omega)) (pgk2zm9.ext (by ((repeat' (first | exact Ext.refl _ | assumption | refine Ext.trans ?_ (Ext.new _ _) | refine Ext.put ?_ ?_ _ | refine Ext.trans ?_ (by assumption))) <;> (first | omega | (simp only [AH.zN, AH.zP] <;> omega))))) (fun b hb => by have := fg.lo b (by rw [hRg]; simp [hb]); first | omega | (simp only [AH.zN, AH.zP] at this ⊢; omega) | (simp only [AH.zN, AH.zP] at this; omega)) (by rw [← hRg]; exact fg.nodup) ⟨by omega, by omega⟩).mono ?_
 rintro r B11 ⟨rfl, a11k1, a11k2, hX11⟩
 have v11 := hX11.size
 try simp only [AH.zN, AH.zP] at v11
 have P11 := (fun b hb => fg.both b (by rw [hRg]; exact hb))
 have hK11 := hX11.out P11
 have EA11 : Ext A B11 := hX11.base P11 (by ((repeat' (first | exact Ext.refl _ | assumption | refine Ext.trans ?_ (Ext.new _ _) | refine Ext.put ?_ ?_ _ | refine Ext.trans ?_ (by assumption))) <;> (first | omega | (simp only [AH.zN, AH.zP] <;> omega)))) (by first | omega | (simp only [AH.zN, AH.zP] <;> omega))
 have EW11 : Ext B3 B11 := hX11.base P11 (by ((repeat' (first | exact Ext.refl _ | assumption | refine Ext.trans ?_ (Ext.new _ _) | refine Ext.put ?_ ?_ _ | refine Ext.trans ?_ (by assumption))) <;> (first | omega | (simp only [AH.zN, AH.zP] <;> omega)))) (by first | omega | (simp only [AH.zN, AH.zP] <;> omega))
 have kr0 : ¬ (1 + (nmL y.1 : Nat) + (nmL y.2 : Nat) : Int) < 0 := by omega
 simp (maxSteps := 2000000) (disch := first | omega | (simp only [AH.zN, AH.zP] <;> omega) | fail) only [amR Tryd.prog ro X, amS, seval, reduceCtorEq, ty3, ty4, ty9, ty45, ty46, ty48, ty50, ty51, ty53, hbig1, hbig2, hE1.get, hE2.get, hE3.get, hE4.get, hE5.get, hE6.get, hE7.get, hE8.get, hK9, kn, hE10.get, hK11, kr0]
 refine (Law.hd_Space _ (by first | omega | (simp only [AH.zN, AH.zP] <;> omega)) rgk1 _ _ rgk2 _ _ (1) (a11k1.ext (by ((repeat' (first | exact Ext.refl _ | assumption | refine Ext.trans ?_ (Ext.new _ _) | refine Ext.put ?_ ?_ _ | refine Ext.trans ?_ (by assumption))) <;> (first | omega | (simp only [AH.zN, AH.zP] <;> omega))))) (a11k2.ext (by ((repeat' (first | exact Ext.refl _ | assumption | refine Ext.trans ?_ (Ext.new _ _) | refine Ext.put ?_ ?_ _ | refine Ext.trans ?_ (by assumption))) <;> (first | omega | (simp only [AH.zN, AH.zP] <;> omega))))) ⟨by omega, by omega⟩).mono ?_
 rintro r B12 ⟨rfl, hE12⟩
 have v12 := hE12.size
 try simp only [AH.zN, AH.zP] at v12
 simp (maxSteps := 2000000) (disch := first | omega | (simp only [AH.zN, AH.zP] <;> omega) | fail) only [amR Tryd.prog ro X, amS, seval, reduceCtorEq, ty3, ty4, ty9, ty45, ty46, ty48, ty50, ty51, ty53, hbig1, hbig2, hE1.get, hE2.get, hE3.get, hE4.get, hE5.get, hE6.get, hE7.get, hE8.get, hK9, kn, hE10.get, hK11, kr0, hE12.get]
 refine (Law.to_Space _ (by first | omega | (simp only [AH.zN, AH.zP] <;> omega)) x0 _ _ (Dat.ext h0 (by ((repeat' (first | exact Ext.refl _ | assumption | refine Ext.trans ?_ (Ext.new _ _) | refine Ext.put ?_ ?_ _ | refine Ext.trans ?_ (by assumption))) <;> (first | omega | (simp only [AH.zN, AH.zP] <;> omega))))) (by omega)).mono ?_
 rintro r B13 ⟨cc, H0z, rfl, qq, f0z, hE13⟩
 obtain ⟨t0k1z, t0k2z, G0k1z, G0k2z, rfl, hH0z, q0k1z, q0k2z⟩ := rep_Space.1 qq
 have v13 := hE13.size
 try simp only [AH.zN, AH.zP] at v13
 simp (maxSteps := 2000000) (disch := first | omega | (simp only [AH.zN, AH.zP] <;> omega) | fail) only [amR Tryd.prog ro X, amS, seval, reduceCtorEq, ty3, ty4, ty9, ty45, ty46, ty48, ty50, ty51, ty53, hbig1, hbig2, hE1.get, hE2.get, hE3.get, hE4.get, hE5.get, hE6.get, hE7.get, hE8.get, hK9, kn, hE10.get, hK11, kr0, hE12.get, hE13.get]
 refine (PutSI.implSrc_a hXS _ (by first | omega | (simp only [AH.zN, AH.zP] <;> omega)) (hT.ext (by ((repeat' (first | exact Ext.refl _ | assumption | refine Ext.trans ?_ (Ext.new _ _) | refine Ext.put ?_ ?_ _ | refine Ext.trans ?_ (by assumption))) <;> (first | omega | (simp only [AH.zN, AH.zP] <;> omega))))) t0k1z t0k2z x0 _ _ (q0k1z.ext (by ((repeat' (first | exact Ext.refl _ | assumption | refine Ext.trans ?_ (Ext.new _ _) | refine Ext.put ?_ ?_ _ | refine Ext.trans ?_ (by assumption))) <;> (first | omega | (simp only [AH.zN, AH.zP] <;> omega))))) (q0k2z.ext (by ((repeat' (first | exact Ext.refl _ | assumption | refine Ext.trans ?_ (Ext.new _ _) | refine Ext.put ?_ ?_ _ | refine Ext.trans ?_ (by assumption))) <;> (first | omega | (simp only [AH.zN, AH.zP] <;> omega))))) (by omega) (by omega) hpp x1 x2 (by unfold BIG; omega) (by unfold BIG; omega)).mono ?_
 rintro r B14 ⟨cc, Fh, rfl, qq, fh, hE14⟩
 rw [← hy] at qq
 obtain ⟨rhk1, rhk2, Rhk1, Rhk2, rfl, hRh, phk1, phk2⟩ := rep_Space.1 qq
 have v14 := hE14.size
 try simp only [AH.zN, AH.zP] at v14
 simp (maxSteps := 2000000) (disch := first | omega | (simp only [AH.zN, AH.zP] <;> omega) | fail) only [amR Tryd.prog ro X, amS, seval, reduceCtorEq, ty3, ty4, ty9, ty45, ty46, ty48, ty50, ty51, ty53, hbig1, hbig2, hE1.get, hE2.get, hE3.get, hE4.get, hE5.get, hE6.get, hE7.get, hE8.get, hK9, kn, hE10.get, hK11, kr0, hE12.get, hE13.get, hE14.get]
 refine (Law.eq_Space _ (by first | omega | (simp only [AH.zN, AH.zP] <;> omega)) y y _ _ _ _ (rep_Space.2 ⟨rhk1, rhk2, _, _, rfl, rfl, phk1.ext (by ((repeat' (first | exact Ext.refl _ | assumption | refine Ext.trans ?_ (Ext.new _ _) | refine Ext.put ?_ ?_ _ | refine Ext.trans ?_ (by assumption))) <;> (first | omega | (simp only [AH.zN, AH.zP] <;> omega)))), phk2.ext (by ((repeat' (first | exact Ext.refl _ | assumption | refine Ext.trans ?_ (Ext.new _ _) | refine Ext.put ?_ ?_ _ | refine Ext.trans ?_ (by assumption))) <;> (first | omega | (simp only [AH.zN, AH.zP] <;> omega))))⟩) (rep_Space.2 ⟨rwk1, rwk2, _, _, rfl, rfl, pwk1.ext (by ((repeat' (first | exact Ext.refl _ | assumption | refine Ext.trans ?_ (Ext.new _ _) | refine Ext.put ?_ ?_ _ | refine Ext.trans ?_ (by assumption))) <;> (first | omega | (simp only [AH.zN, AH.zP] <;> omega)))), pwk2.ext (by ((repeat' (first | exact Ext.refl _ | assumption | refine Ext.trans ?_ (Ext.new _ _) | refine Ext.put ?_ ?_ _ | refine Ext.trans ?_ (by assumption))) <;> (first | omega | (simp only [AH.zN, AH.zP] <;> omega))))⟩) (by omega)).mono ?_
 rintro r B15 ⟨rfl, hE15⟩
 have v15 := hE15.size
 try simp only [AH.zN, AH.zP] at v15
 simp (maxSteps := 2000000) (disch := first | omega | (simp only [AH.zN, AH.zP] <;> omega) | fail) only [amR Tryd.prog ro X, amS, seval, reduceCtorEq, ty3, ty4, ty9, ty45, ty46, ty48, ty50, ty51, ty53, hbig1, hbig2, hE1.get, hE2.get, hE3.get, hE4.get, hE5.get, hE6.get, hE7.get, hE8.get, hK9, kn, hE10.get, hK11, kr0, hE12.get, hE13.get, hE14.get, hE15.get]
 refine (Law.hd_Space _ (by first | omega | (simp only [AH.zN, AH.zP] <;> omega)) rgk1 _ _ rgk2 _ _ (1) (a11k1.ext (by ((repeat' (first | exact Ext.refl _ | assumption | refine Ext.trans ?_ (Ext.new _ _) | refine Ext.put ?_ ?_ _ | refine Ext.trans ?_ (by assumption))) <;> (first | omega | (simp only [AH.zN, AH.zP] <;> omega))))) (a11k2.ext (by ((repeat' (first | exact Ext.refl _ | assumption | refine Ext.trans ?_ (Ext.new _ _) | refine Ext.put ?_ ?_ _ | refine Ext.trans ?_ (by assumption))) <;> (first | omega | (simp only [AH.zN, AH.zP] <;> omega))))) ⟨by omega, by omega⟩).mono ?_
 rintro r B16 ⟨rfl, hE16⟩
 have v16 := hE16.size
 try simp only [AH.zN, AH.zP] at v16
 simp (maxSteps := 2000000) (disch := first | omega | (simp only [AH.zN, AH.zP] <;> omega) | fail) only [amR Tryd.prog ro X, amS, seval, reduceCtorEq, ty3, ty4, ty9, ty45, ty46, ty48, ty50, ty51, ty53, hbig1, hbig2, hE1.get, hE2.get, hE3.get, hE4.get, hE5.get, hE6.get, hE7.get, hE8.get, hK9, kn, hE10.get, hK11, kr0, hE12.get, hE13.get, hE14.get, hE15.get, hE16.get]
end Go.Proofs.YtjlbcofopapajaaDoor.Amu.LPutSource
