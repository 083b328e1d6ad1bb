import Derived.Test.YtjlbcofopapajaaDoorAmuTy
import Derived.Test.YtjlbcofopapajaaDoorAmuPutTI
import Derived.Test.YtjlbcofopapajaaDoorAmuPutTS
import Derived.Test.YtjlbcofopapajaaDoorAmuLawA
import Derived.Test.YtjlbcofopapajaaDoorAmuSort
import Derived.Test.YtjlbcofopapajaaDoorAmuLawB
namespace Go.Proofs.YtjlbcofopapajaaDoor.Amu.LPutTarget
open Go Go.AM Go.Proofs
set_option linter.all false
set_option maxHeartbeats 4000000
open Ty
variable {ro : Nat} {X : FuncId → List Value → AH → ARes → AH → Prop}
set_option maxRecDepth 10000
theorem law_a (A : AH) (hro : ro ≤ A.size) (hT : Tab 0 A) (hXS : ∀ f args A r A', SortX 80 [(51, 90, 1)] ro f args A r A' → X f args A r A') (x0 : TSpace) (c0 : List Value) (F0 : List Nat) (h0 : Dat.rep A x0 c0 F0) (b0 : Mk.bd x0) (x1 : ByteArray) (hx1 : x1.size < 4611686018427387904) (x2 : TProgram) (c2 : List Value) (F2 : List Nat) (h2 : Dat.rep A x2 c2 F2) (b2 : Mk.bd x2) :
 ACalls Tryd.prog ro X 6 [.agg c0.toArray, .string x1, .agg c2.toArray] A (fun r _ => r = .ret (.bool true)) := by
 refine ACalls.enterQ (rs := [.tmp 6]) Tryd.func6 rfl (by kernel_rfl) rfl ?_
 have hh0 := h0
 obtain ⟨w0k1, w0k2, _, _, rfl, _, _, _⟩ := rep_Space.1 hh0
 have hh2 := h2
 obtain ⟨w2k1, _, rfl, _, _⟩ := rep_Program.1 hh2
 by_cases hbig1 : (1048576 : Int) < x1.size
 ·simp (maxSteps := 2000000) (disch := first | omega | (simp only [AH.zN, AH.zP] <;> omega) | fail) only [amR Tryd.prog ro X, amS, seval, reduceCtorEq, ty3, ty4, ty9, ty22, ty24, ty27, ty29, ty45, ty46, ty48, ty50, ty51, ty53, hbig1]
 simp (maxSteps := 2000000) (disch := first | omega | (simp only [AH.zN, AH.zP] <;> omega) | fail) only [amR Tryd.prog ro X, amS, seval, reduceCtorEq, ty3, ty4, ty9, ty22, ty24, ty27, ty29, ty45, ty46, ty48, ty50, ty51, ty53, hbig1]
 refine (Law.sz_Space _ (by first | omega | (simp only [AH.zN, AH.zP] <;> omega)) x0 _ _ (Dat.ext h0 (by ((repeat' (first | exact Ext.refl _ | assumption | refine Ext.trans ?_ (Ext.new _ _) | refine Ext.put ?_ ?_ _ | refine Ext.trans ?_ (by assumption))) <;> (first | omega | (simp only [AH.zN, AH.zP] <;> omega))))) b0 (1048576) (by omega)).mono ?_
 rintro r B1 ⟨rfl, hE1⟩
 have v1 := hE1.size
 try simp only [AH.zN, AH.zP] at v1
 by_cases z0 : 1048576 - (Mk.sz x0 : Nat) < (0 : Int)
 ·rw [szR_neg z0]
  simp (maxSteps := 2000000) (disch := first | omega | (simp only [AH.zN, AH.zP] <;> omega) | fail) only [amR Tryd.prog ro X, amS, seval, reduceCtorEq, ty3, ty4, ty9, ty22, ty24, ty27, ty29, ty45, ty46, ty48, ty50, ty51, ty53, hbig1, hE1.get]
 rw [szR_pos z0]
 simp (maxSteps := 2000000) (disch := first | omega | (simp only [AH.zN, AH.zP] <;> omega) | fail) only [amR Tryd.prog ro X, amS, seval, reduceCtorEq, ty3, ty4, ty9, ty22, ty24, ty27, ty29, ty45, ty46, ty48, ty50, ty51, ty53, hbig1, hE1.get, z0]
 refine (Law.sz_Program _ (by first | omega | (simp only [AH.zN, AH.zP] <;> omega)) x2 _ _ (Dat.ext h2 (by ((repeat' (first | exact Ext.refl _ | assumption | refine Ext.trans ?_ (Ext.new _ _) | refine Ext.put ?_ ?_ _ | refine Ext.trans ?_ (by assumption))) <;> (first | omega | (simp only [AH.zN, AH.zP] <;> omega))))) b2 (1048576 - (Mk.sz x0 : Nat)) (by omega)).mono ?_
 rintro r B2 ⟨rfl, hE2⟩
 have v2 := hE2.size
 try simp only [AH.zN, AH.zP] at v2
 by_cases z2 : 1048576 - (Mk.sz x0 : Nat) - (Mk.sz x2 : Nat) < (0 : Int)
 ·rw [szR_neg z2]
  simp (maxSteps := 2000000) (disch := first | omega | (simp only [AH.zN, AH.zP] <;> omega) | fail) only [amR Tryd.prog ro X, amS, seval, reduceCtorEq, ty3, ty4, ty9, ty22, ty24, ty27, ty29, ty45, ty46, ty48, ty50, ty51, ty53, hbig1, hE1.get, hE2.get]
 rw [szR_pos z2]
 simp (maxSteps := 2000000) (disch := first | omega | (simp only [AH.zN, AH.zP] <;> omega) | fail) only [amR Tryd.prog ro X, amS, seval, reduceCtorEq, ty3, ty4, ty9, ty22, ty24, ty27, ty29, ty45, ty46, ty48, ty50, ty51, ty53, hbig1, hE1.get, hE2.get, z2]
 have hq0 : Mk.sz x0 = szL Mk.sz x0.1 + szL Mk.sz x0.2 := rfl
 have hl0 := szL_length Mk.sz x0.1
 have hl1 := szL_length Mk.sz x0.2
 have hl2 := szL_length Mk.sz x2
 have hq2 : Mk.sz x2 = szL Mk.sz x2 := rfl
 have hpp : ∀ t ∈ x0.2, t.2.length < 4294967296 := fun t ht => by have := mem_sz ht; omega
 obtain ⟨y, hy⟩ : ∃ y, y = (putTgtR x0 x1 x2).1 := ⟨_, rfl⟩
 have ysz : Mk.sz y < 1073741824 := by
  rw [hy]
  have := putTgtR_sz x0 x1 x2
  omega
 have ye1 : Mk.sz y = Mk.sz y.1 + Mk.sz y.2 := rfl
 have yl1 : Mk.sz y.1 = szL Mk.sz y.1 := rfl
 have yn1 := nmL_Source y.1
 have yl2 : Mk.sz y.2 = szL Mk.sz y.2 := rfl
 have yn2 := nmL_Target y.2
 have m0e1 : Mk.sz x0 = Mk.sz x0.1 + Mk.sz x0.2 := rfl
 have m0l1 : Mk.sz x0.1 = szL Mk.sz x0.1 := rfl
 have m0n1 := nmL_Source x0.1
 have m0l2 : Mk.sz x0.2 = szL Mk.sz x0.2 := rfl
 have m0n2 := nmL_Target x0.2
 have m2l1 : Mk.sz x2 = szL Mk.sz x2 := rfl
 have m2n1 := nmL_Ins x2
 refine Wp.runG [1] (by kernel_rfl) (.inr (by intro v e A h; simp only [amK, amQ, thenQ, blockQ, endQ, reduceCtorEq, false_and, exists_false] at h)) ?_
 simp (maxSteps := 2000000) (disch := first | omega | (simp only [AH.zN, AH.zP] <;> omega) | fail) only [amR Tryd.prog ro X, amS, seval, reduceCtorEq, ty3, ty4, ty9, ty22, ty24, ty27, ty29, ty45, ty46, ty48, ty50, ty51, ty53, hbig1, hE1.get, hE2.get]
 refine (Law.to_Space _ (by first | omega | (simp only [AH.zN, AH.zP] <;> omega)) x0 _ _ (Dat.ext h0 (by ((repeat' (first | exact Ext.refl _ | assumption | refine Ext.trans ?_ (Ext.new _ _) | refine Ext.put ?_ ?_ _ | refine Ext.trans ?_ (by assumption))) <;> (first | omega | (simp only [AH.zN, AH.zP] <;> omega))))) (by omega)).mono ?_
 rintro r B3 ⟨cc, H0w, rfl, qq, f0w, hE3⟩
 obtain ⟨t0k1w, t0k2w, G0k1w, G0k2w, rfl, hH0w, q0k1w, q0k2w⟩ := rep_Space.1 qq
 have v3 := hE3.size
 try simp only [AH.zN, AH.zP] at v3
 simp (maxSteps := 2000000) (disch := first | omega | (simp only [AH.zN, AH.zP] <;> omega) | fail) only [amR Tryd.prog ro X, amS, seval, reduceCtorEq, ty3, ty4, ty9, ty22, ty24, ty27, ty29, ty45, ty46, ty48, ty50, ty51, ty53, hbig1, hE1.get, hE2.get]
 refine ⟨fun b hb => hE3.get b hb, ?_⟩
 try simp (maxSteps := 2000000) (disch := first | omega | (simp only [AH.zN, AH.zP] <;> omega) | fail) only [amR Tryd.prog ro X, amS, seval, reduceCtorEq, ty3, ty4, ty9, ty22, ty24, ty27, ty29, ty45, ty46, ty48, ty50, ty51, ty53, hbig1, hE1.get, hE2.get, hE3.get]
 refine (Law.to_Program _ (by first | omega | (simp only [AH.zN, AH.zP] <;> omega)) x2 _ _ (Dat.ext h2 (by ((repeat' (first | exact Ext.refl _ | assumption | refine Ext.trans ?_ (Ext.new _ _) | refine Ext.put ?_ ?_ _ | refine Ext.trans ?_ (by assumption))) <;> (first | omega | (simp only [AH.zN, AH.zP] <;> omega))))) (by omega)).mono ?_
 rintro r B4 ⟨cc, H2w, rfl, qq, f2w, hE4⟩
 obtain ⟨t2k1w, G2k1w, rfl, hH2w, q2k1w⟩ := rep_Program.1 qq
 have v4 := hE4.size
 try simp only [AH.zN, AH.zP] at v4
 simp (maxSteps := 2000000) (disch := first | omega | (simp only [AH.zN, AH.zP] <;> omega) | fail) only [amR Tryd.prog ro X, amS, seval, reduceCtorEq, ty3, ty4, ty9, ty22, ty24, ty27, ty29, ty45, ty46, ty48, ty50, ty51, ty53, hbig1, hE1.get, hE2.get, hE3.get, hE4.get]
 refine (PutTS.specTgt_a _ (by first | omega | (simp only [AH.zN, AH.zP] <;> omega)) t0k1w t0k2w x0 _ _ (q0k1w.ext (by ((repeat' (first | exact Ext.refl _ | assumption | refine Ext.trans ?_ (Ext.new _ _) | refine Ext.put ?_ ?_ _ | refine Ext.trans ?_ (by assumption))) <;> (first | omega | (simp only [AH.zN, AH.zP] <;> omega))))) (q0k2w.ext (by ((repeat' (first | exact Ext.refl _ | assumption | refine Ext.trans ?_ (Ext.new _ _) | refine Ext.put ?_ ?_ _ | refine Ext.trans ?_ (by assumption))) <;> (first | omega | (simp only [AH.zN, AH.zP] <;> omega))))) (by omega) (by omega) hpp x1 (by unfold BIG; omega) t2k1w x2 _ (q2k1w.ext (by ((repeat' (first | exact Ext.refl _ | assumption | refine Ext.trans ?_ (Ext.new _ _) | refine Ext.put ?_ ?_ _ | refine Ext.trans ?_ (by assumption))) <;> (first | omega | (simp only [AH.zN, AH.zP] <;> omega))))) (by omega)).mono ?_
 rintro r B5 ⟨cc, Fw, rfl, qq, _, hE5⟩
 rw [← hy] at qq
 have bdw := Dat.bound qq
 obtain ⟨rwk1, rwk2, Rwk1, Rwk2, rfl, hRw, pwk1, pwk2⟩ := rep_Space.1 qq
 have v5 := hE5.size
 try simp only [AH.zN, AH.zP] at v5
 simp (maxSteps := 2000000) (disch := first | omega | (simp only [AH.zN, AH.zP] <;> omega) | fail) only [amR Tryd.prog ro X, amS, seval, reduceCtorEq, ty3, ty4, ty9, ty22, ty24, ty27, ty29, ty45, ty46, ty48, ty50, ty51, ty53, hbig1, hE1.get, hE2.get, hE3.get, hE4.get, hE5.get]
 refine (Law.to_Space _ (by first | omega | (simp only [AH.zN, AH.zP] <;> omega)) x0 _ _ (Dat.ext h0 (by ((repeat' (first | exact Ext.refl _ | assumption | refine Ext.trans ?_ (Ext.new _ _) | refine Ext.put ?_ ?_ _ | refine Ext.trans ?_ (by assumption))) <;> (first | omega | (simp only [AH.zN, AH.zP] <;> omega))))) (by omega)).mono ?_
 rintro r B6 ⟨cc, H0x, rfl, qq, f0x, hE6⟩
 obtain ⟨t0k1x, t0k2x, G0k1x, G0k2x, rfl, hH0x, q0k1x, q0k2x⟩ := rep_Space.1 qq
 have v6 := hE6.size
 try simp only [AH.zN, AH.zP] at v6
 simp (maxSteps := 2000000) (disch := first | omega | (simp only [AH.zN, AH.zP] <;> omega) | fail) only [amR Tryd.prog ro X, amS, seval, reduceCtorEq, ty3, ty4, ty9, ty22, ty24, ty27, ty29, ty45, ty46, ty48, ty50, ty51, ty53, hbig1, hE1.get, hE2.get, hE3.get, hE4.get, hE5.get, hE6.get]
 refine (Law.to_Program _ (by first | omega | (simp only [AH.zN, AH.zP] <;> omega)) x2 _ _ (Dat.ext h2 (by ((repeat' (first | exact Ext.refl _ | assumption | refine Ext.trans ?_ (Ext.new _ _) | refine Ext.put ?_ ?_ _ | refine Ext.trans ?_ (by assumption))) <;> (first | omega | (simp only [AH.zN, AH.zP] <;> omega))))) (by omega)).mono ?_
 rintro r B7 ⟨cc, H2x, rfl, qq, f2x, hE7⟩
 obtain ⟨t2k1x, G2k1x, rfl, hH2x, q2k1x⟩ := rep_Program.1 qq
 have v7 := hE7.size
 try simp only [AH.zN, AH.zP] at v7
 simp (maxSteps := 2000000) (disch := first | omega | (simp only [AH.zN, AH.zP] <;> omega) | fail) only [amR Tryd.prog ro X, amS, seval, reduceCtorEq, ty3, ty4, ty9, ty22, ty24, ty27, ty29, ty45, ty46, ty48, ty50, ty51, ty53, hbig1, hE1.get, hE2.get, hE3.get, hE4.get, hE5.get, hE6.get, hE7.get]
 refine (PutTI.implTgt_a hXS _ (by first | omega | (simp only [AH.zN, AH.zP] <;> omega)) (hT.ext (by ((repeat' (first | exact Ext.refl _ | assumption | refine Ext.trans ?_ (Ext.new _ _) | refine Ext.put ?_ ?_ _ | refine Ext.trans ?_ (by assumption))) <;> (first | omega | (simp only [AH.zN, AH.zP] <;> omega))))) t0k1x t0k2x x0 _ _ (q0k1x.ext (by ((repeat' (first | exact Ext.refl _ | assumption | refine Ext.trans ?_ (Ext.new _ _) | refine Ext.put ?_ ?_ _ | refine Ext.trans ?_ (by assumption))) <;> (first | omega | (simp only [AH.zN, AH.zP] <;> omega))))) (q0k2x.ext (by ((repeat' (first | exact Ext.refl _ | assumption | refine Ext.trans ?_ (Ext.new _ _) | refine Ext.put ?_ ?_ _ | refine Ext.trans ?_ (by assumption))) <;> (first | omega | (simp only [AH.zN, AH.zP] <;> omega))))) (by omega) (by omega) hpp x1 (by unfold BIG; omega) t2k1x x2 _ (q2k1x.ext (by ((repeat' (first | exact Ext.refl _ | assumption | refine Ext.trans ?_ (Ext.new _ _) | refine Ext.put ?_ ?_ _ | refine Ext.trans ?_ (by assumption))) <;> (first | omega | (simp only [AH.zN, AH.zP] <;> omega))))) (by omega)).mono ?_
 rintro r B8 ⟨cc, Fg, rfl, qq, fg, hE8⟩
 rw [← hy] at qq
 obtain ⟨rgk1, rgk2, Rgk1, Rgk2, rfl, hRg, pgk1, pgk2⟩ := rep_Space.1 qq
 have v8 := hE8.size
 try simp only [AH.zN, AH.zP] at v8
 simp (maxSteps := 2000000) (disch := first | omega | (simp only [AH.zN, AH.zP] <;> omega) | fail) only [amR Tryd.prog ro X, amS, seval, reduceCtorEq, ty3, ty4, ty9, ty22, ty24, ty27, ty29, ty45, ty46, ty48, ty50, ty51, ty53, hbig1, hE1.get, hE2.get, hE3.get, hE4.get, hE5.get, hE6.get, hE7.get, hE8.get]
 refine (Law.eq_Space _ (by first | omega | (simp only [AH.zN, AH.zP] <;> omega)) y y _ _ _ _ (rep_Space.2 ⟨rgk1, rgk2, _, _, rfl, rfl, pgk1.ext (by ((repeat' (first | exact Ext.refl _ | assumption | refine Ext.trans ?_ (Ext.new _ _) | refine Ext.put ?_ ?_ _ | refine Ext.trans ?_ (by assumption))) <;> (first | omega | (simp only [AH.zN, AH.zP] <;> omega)))), pgk2.ext (by ((repeat' (first | exact Ext.refl _ | assumption | refine Ext.trans ?_ (Ext.new _ _) | refine Ext.put ?_ ?_ _ | refine Ext.trans ?_ (by assumption))) <;> (first | omega | (simp only [AH.zN, AH.zP] <;> omega))))⟩) (rep_Space.2 ⟨rwk1, rwk2, _, _, rfl, rfl, pwk1.ext (by ((repeat' (first | exact Ext.refl _ | assumption | refine Ext.trans ?_ (Ext.new _ _) | refine Ext.put ?_ ?_ _ | refine Ext.trans ?_ (by assumption))) <;> (first | omega | (simp only [AH.zN, AH.zP] <;> omega)))), pwk2.ext (by ((repeat' (first | exact Ext.refl _ | assumption | refine Ext.trans ?_ (Ext.new _ _) | refine Ext.put ?_ ?_ _ | refine Ext.trans ?_ (by assumption))) <;> (first | omega | (simp only [AH.zN, AH.zP] <;> omega))))⟩) (by omega)).mono ?_
 rintro r B9 ⟨rfl, hE9⟩
 have v9 := hE9.size
 try simp only [AH.zN, AH.zP] at v9
 simp (maxSteps := 2000000) (disch := first | omega | (simp only [AH.zN, AH.zP] <;> omega) | fail) only [amR Tryd.prog ro X, amS, seval, reduceCtorEq, ty3, ty4, ty9, ty22, ty24, ty27, ty29, ty45, ty46, ty48, ty50, ty51, ty53, hbig1, hE1.get, hE2.get, hE3.get, hE4.get, hE5.get, hE6.get, hE7.get, hE8.get, hE9.get]
 refine Wp.runG [2] (by kernel_rfl) (.inl (by kernel_rfl)) ?_
 simp (maxSteps := 2000000) (disch := first | omega | (simp only [AH.zN, AH.zP] <;> omega) | fail) only [amR Tryd.prog ro X, amS, seval, reduceCtorEq, ty3, ty4, ty9, ty22, ty24, ty27, ty29, ty45, ty46, ty48, ty50, ty51, ty53, hbig1, hE1.get, hE2.get, hE3.get, hE4.get, hE5.get, hE6.get, hE7.get, hE8.get, hE9.get]
 refine (Law.to_Space _ (by first | omega | (simp only [AH.zN, AH.zP] <;> omega)) x0 _ _ (Dat.ext h0 (by ((repeat' (first | exact Ext.refl _ | assumption | refine Ext.trans ?_ (Ext.new _ _) | refine Ext.put ?_ ?_ _ | refine Ext.trans ?_ (by assumption))) <;> (first | omega | (simp only [AH.zN, AH.zP] <;> omega))))) (by omega)).mono ?_
 rintro r B10 ⟨cc, H0y, rfl, qq, f0y, hE10⟩
 obtain ⟨t0k1y, t0k2y, G0k1y, G0k2y, rfl, hH0y, q0k1y, q0k2y⟩ := rep_Space.1 qq
 have v10 := hE10.size
 try simp only [AH.zN, AH.zP] at v10
 simp (maxSteps := 2000000) (disch := first | omega | (simp only [AH.zN, AH.zP] <;> omega) | fail) only [amR Tryd.prog ro X, amS, seval, reduceCtorEq, ty3, ty4, ty9, ty22, ty24, ty27, ty29, ty45, ty46, ty48, ty50, ty51, ty53, hbig1, hE1.get, hE2.get, hE3.get, hE4.get, hE5.get, hE6.get, hE7.get, hE8.get, hE9.get]
 refine ⟨fun b hb => hE10.get b hb, ?_⟩
 try simp (maxSteps := 2000000) (disch := first | omega | (simp only [AH.zN, AH.zP] <;> omega) | fail) only [amR Tryd.prog ro X, amS, seval, reduceCtorEq, ty3, ty4, ty9, ty22, ty24, ty27, ty29, ty45, ty46, ty48, ty50, ty51, ty53, hbig1, hE1.get, hE2.get, hE3.get, hE4.get, hE5.get, hE6.get, hE7.get, hE8.get, hE9.get, hE10.get]
 refine (Law.eq_Space _ (by first | omega | (simp only [AH.zN, AH.zP] <;> omega)) x0 x0 _ _ _ _ (rep_Space.2 ⟨t0k1x, t0k2x, _, _, rfl, rfl, q0k1x.ext (by ((repeat' (first | exact Ext.refl _ | assumption | refine Ext.trans ?_ (Ext.new _ _) | refine Ext.put ?_ ?_ _ | refine Ext.trans ?_ (by assumption))) <;> (first | omega | (simp only [AH.zN, AH.zP] <;> omega)))), q0k2x.ext (by ((repeat' (first | exact Ext.refl _ | assumption | refine Ext.trans ?_ (Ext.new _ _) | refine Ext.put ?_ ?_ _ | refine Ext.trans ?_ (by assumption))) <;> (first | omega | (simp only [AH.zN, AH.zP] <;> omega))))⟩) (rep_Space.2 ⟨t0k1y, t0k2y, _, _, rfl, rfl, q0k1y.ext (by ((repeat' (first | exact Ext.refl _ | assumption | refine Ext.trans ?_ (Ext.new _ _) | refine Ext.put ?_ ?_ _ | refine Ext.trans ?_ (by assumption))) <;> (first | omega | (simp only [AH.zN, AH.zP] <;> omega)))), q0k2y.ext (by ((repeat' (first | exact Ext.refl _ | assumption | refine Ext.trans ?_ (Ext.new _ _) | refine Ext.put ?_ ?_ _ | refine Ext.trans ?_ (by assumption))) <;> (first | omega | (simp only [AH.zN, AH.zP] <;> omega))))⟩) (by omega)).mono ?_
 rintro r B11 ⟨rfl, hE11⟩
 have v11 := hE11.size
 try simp only [AH.zN, AH.zP] at v11
 simp (maxSteps := 2000000) (disch := first | omega | (simp only [AH.zN, AH.zP] <;> omega) | fail) only [amR Tryd.prog ro X, amS, seval, reduceCtorEq, ty3, ty4, ty9, ty22, ty24, ty27, ty29, ty45, ty46, ty48, ty50, ty51, ty53, hbig1, hE1.get, hE2.get, hE3.get, hE4.get, hE5.get, hE6.get, hE7.get, hE8.get, hE9.get, hE10.get, hE11.get]
 refine Wp.runG [2] (by kernel_rfl) (.inl (by kernel_rfl)) ?_
 simp (maxSteps := 2000000) (disch := first | omega | (simp only [AH.zN, AH.zP] <;> omega) | fail) only [amR Tryd.prog ro X, amS, seval, reduceCtorEq, ty3, ty4, ty9, ty22, ty24, ty27, ty29, ty45, ty46, ty48, ty50, ty51, ty53, hbig1, hE1.get, hE2.get, hE3.get, hE4.get, hE5.get, hE6.get, hE7.get, hE8.get, hE9.get, hE10.get, hE11.get]
 refine (Law.to_Program _ (by first | omega | (simp only [AH.zN, AH.zP] <;> omega)) x2 _ _ (Dat.ext h2 (by ((repeat' (first | exact Ext.refl _ | assumption | refine Ext.trans ?_ (Ext.new _ _) | refine Ext.put ?_ ?_ _ | refine Ext.trans ?_ (by assumption))) <;> (first | omega | (simp only [AH.zN, AH.zP] <;> omega))))) (by omega)).mono ?_
 rintro r B12 ⟨cc, H2y, rfl, qq, f2y, hE12⟩
 obtain ⟨t2k1y, G2k1y, rfl, hH2y, q2k1y⟩ := rep_Program.1 qq
 have v12 := hE12.size
 try simp only [AH.zN, AH.zP] at v12
 simp (maxSteps := 2000000) (disch := first | omega | (simp only [AH.zN, AH.zP] <;> omega) | fail) only [amR Tryd.prog ro X, amS, seval, reduceCtorEq, ty3, ty4, ty9, ty22, ty24, ty27, ty29, ty45, ty46, ty48, ty50, ty51, ty53, hbig1, hE1.get, hE2.get, hE3.get, hE4.get, hE5.get, hE6.get, hE7.get, hE8.get, hE9.get, hE10.get, hE11.get]
 refine ⟨fun b hb => hE12.get b hb, ?_⟩
 try simp (maxSteps := 2000000) (disch := first | omega | (simp only [AH.zN, AH.zP] <;> omega) | fail) only [amR Tryd.prog ro X, amS, seval, reduceCtorEq, ty3, ty4, ty9, ty22, ty24, ty27, ty29, ty45, ty46, ty48, ty50, ty51, ty53, hbig1, hE1.get, hE2.get, hE3.get, hE4.get, hE5.get, hE6.get, hE7.get, hE8.get, hE9.get, hE10.get, hE11.get, hE12.get]
 refine (Law.eq_Program _ (by first | omega | (simp only [AH.zN, AH.zP] <;> omega)) x2 x2 _ _ _ _ (rep_Program.2 ⟨t2k1x, _, rfl, rfl, q2k1x.ext (by ((repeat' (first | exact Ext.refl _ | assumption | refine Ext.trans ?_ (Ext.new _ _) | refine Ext.put ?_ ?_ _ | refine Ext.trans ?_ (by assumption))) <;> (first | omega | (simp only [AH.zN, AH.zP] <;> omega))))⟩) (rep_Program.2 ⟨t2k1y, _, rfl, rfl, q2k1y.ext (by ((repeat' (first | exact Ext.refl _ | assumption | refine Ext.trans ?_ (Ext.new _ _) | refine Ext.put ?_ ?_ _ | refine Ext.trans ?_ (by assumption))) <;> (first | omega | (simp only [AH.zN, AH.zP] <;> omega))))⟩) (by omega)).mono ?_
 rintro r B13 ⟨rfl, hE13⟩
 have v13 := hE13.size
 try simp only [AH.zN, AH.zP] at v13
 simp (maxSteps := 2000000) (disch := first | omega | (simp only [AH.zN, AH.zP] <;> omega) | fail) only [amR Tryd.prog ro X, amS, seval, reduceCtorEq, ty3, ty4, ty9, ty22, ty24, ty27, ty29, ty45, ty46, ty48, ty50, ty51, ty53, hbig1, hE1.get, hE2.get, hE3.get, hE4.get, hE5.get, hE6.get, hE7.get, hE8.get, hE9.get, hE10.get, hE11.get, hE12.get, hE13.get]
 refine (Law.mk_Space _ (by first | omega | (simp only [AH.zN, AH.zP] <;> omega)) t0k1x _ _ t0k2x _ _ (1) (q0k1x.ext (by ((repeat' (first | exact Ext.refl _ | assumption | refine Ext.trans ?_ (Ext.new _ _) | refine Ext.put ?_ ?_ _ | refine Ext.trans ?_ (by assumption))) <;> (first | omega | (simp only [AH.zN, AH.zP] <;> omega))))) (fun b hb => by have := f0x.lo b (by rw [hH0x]; simp [hb]); first | omega | (simp only [AH.zN, AH.zP] at this ⊢; omega) | (simp only [AH.zN, AH.zP] at this; omega)) (q0k2x.ext (by ((repeat' (first | exact Ext.refl _ | assumption | refine Ext.trans ?_ (Ext.new _ _) | refine Ext.put ?_ ?_ _ | refine Ext.trans ?_ (by assumption))) <;> (first | omega | (simp only [AH.zN, AH.zP] <;> omega))))) (fun b hb => by have := f0x.lo b (by rw [hH0x]; simp [hb]); first | omega | (simp only [AH.zN, AH.zP] at this ⊢; omega) | (simp only [AH.zN, AH.zP] at this; omega)) (by rw [← hH0x]; exact f0x.nodup) ⟨by omega, by omega⟩).mono ?_
 rintro r B14 ⟨rfl, a14k1, a14k2, hX14⟩
 have v14 := hX14.size
 try simp only [AH.zN, AH.zP] at v14
 have P14 := (fun b hb => f0x.both b (by rw [hH0x]; exact hb))
 have hK14 := hX14.out P14
 have EA14 : Ext A B14 := hX14.base P14 (by ((repeat' (first | exact Ext.refl _ | assumption | refine Ext.trans ?_ (Ext.new _ _) | refine Ext.put ?_ ?_ _ | refine Ext.trans ?_ (by assumption))) <;> (first | omega | (simp only [AH.zN, AH.zP] <;> omega)))) (by first | omega | (simp only [AH.zN, AH.zP] <;> omega))
 have EW14 : Ext B5 B14 := hX14.base P14 (by ((repeat' (first | exact Ext.refl _ | assumption | refine Ext.trans ?_ (Ext.new _ _) | refine Ext.put ?_ ?_ _ | refine Ext.trans ?_ (by assumption))) <;> (first | omega | (simp only [AH.zN, AH.zP] <;> omega)))) (by first | omega | (simp only [AH.zN, AH.zP] <;> omega))
 have q2k1xzm14 := (q2k1x.ext (by ((repeat' (first | exact Ext.refl _ | assumption | refine Ext.trans ?_ (Ext.new _ _) | refine Ext.put ?_ ?_ _ | refine Ext.trans ?_ (by assumption))) <;> (first | omega | (simp only [AH.zN, AH.zP] <;> omega))))).out hX14 P14 (fun b hb => .inr (by have := f2x.lo b (by rw [hH2x]; simp [hb]); first | omega | (simp only [AH.zN, AH.zP] at this ⊢; omega) | (simp only [AH.zN, AH.zP] at this; omega)))
 have pgk1zm14 := (pgk1.ext (by ((repeat' (first | exact Ext.refl _ | assumption | refine Ext.trans ?_ (Ext.new _ _) | refine Ext.put ?_ ?_ _ | refine Ext.trans ?_ (by assumption))) <;> (first | omega | (simp only [AH.zN, AH.zP] <;> omega))))).out hX14 P14 (fun b hb => .inr (by have := fg.lo b (by rw [hRg]; simp [hb]); first | omega | (simp only [AH.zN, AH.zP] at this ⊢; omega) | (simp only [AH.zN, AH.zP] at this; omega)))
 have pgk2zm14 := (pgk2.ext (by ((repeat' (first | exact Ext.refl _ | assumption | refine Ext.trans ?_ (Ext.new _ _) | refine Ext.put ?_ ?_ _ | refine Ext.trans ?_ (by assumption))) <;> (first | omega | (simp only [AH.zN, AH.zP] <;> omega))))).out hX14 P14 (fun b hb => .inr (by have := fg.lo b (by rw [hRg]; simp [hb]); first | omega | (simp only [AH.zN, AH.zP] at this ⊢; omega) | (simp only [AH.zN, AH.zP] at this; omega)))
 simp (maxSteps := 2000000) (disch := first | omega | (simp only [AH.zN, AH.zP] <;> omega) | fail) only [amR Tryd.prog ro X, amS, seval, reduceCtorEq, ty3, ty4, ty9, ty22, ty24, ty27, ty29, ty45, ty46, ty48, ty50, ty51, ty53, hbig1, hE1.get, hE2.get, hE3.get, hE4.get, hE5.get, hE6.get, hE7.get, hE8.get, hE9.get, hE10.get, hE11.get, hE12.get, hE13.get, hK14]
 refine (Law.mk_Program _ (by first | omega | (simp only [AH.zN, AH.zP] <;> omega)) t2k1x _ _ (1 + (nmL x0.1 : Nat) + (nmL x0.2 : Nat)) (q2k1xzm14.ext (by ((repeat' (first | exact Ext.refl _ | assumption | refine Ext.trans ?_ (Ext.new _ _) | refine Ext.put ?_ ?_ _ | refine Ext.trans ?_ (by assumption))) <;> (first | omega | (simp only [AH.zN, AH.zP] <;> omega))))) (fun b hb => by have := f2x.lo b (by rw [hH2x]; simp [hb]); first | omega | (simp only [AH.zN, AH.zP] at this ⊢; omega) | (simp only [AH.zN, AH.zP] at this; omega)) (by rw [← hH2x]; exact f2x.nodup) ⟨by omega, by omega⟩).mono ?_
 rintro r B15 ⟨rfl, a15k1, hX15⟩
 have v15 := hX15.size
 try simp only [AH.zN, AH.zP] at v15
 have P15 := (fun b hb => f2x.both b (by rw [hH2x]; exact hb))
 have hK15 := hX15.out P15
 have EA15 : Ext A B15 := hX15.base P15 (by ((repeat' (first | exact Ext.refl _ | assumption | refine Ext.trans ?_ (Ext.new _ _) | refine Ext.put ?_ ?_ _ | refine Ext.trans ?_ (by assumption))) <;> (first | omega | (simp only [AH.zN, AH.zP] <;> omega)))) (by first | omega | (simp only [AH.zN, AH.zP] <;> omega))
 have EW15 : Ext B5 B15 := hX15.base P15 (by ((repeat' (first | exact Ext.refl _ | assumption | refine Ext.trans ?_ (Ext.new _ _) | refine Ext.put ?_ ?_ _ | refine Ext.trans ?_ (by assumption))) <;> (first | omega | (simp only [AH.zN, AH.zP] <;> omega)))) (by first | omega | (simp only [AH.zN, AH.zP] <;> omega))
 have pgk1zm15 := (pgk1zm14.ext (by ((repeat' (first | exact Ext.refl _ | assumption | refine Ext.trans ?_ (Ext.new _ _) | refine Ext.put ?_ ?_ _ | refine Ext.trans ?_ (by assumption))) <;> (first | omega | (simp only [AH.zN, AH.zP] <;> omega))))).out hX15 P15 (fun b hb => .inr (by have := fg.lo b (by rw [hRg]; simp [hb]); first | omega | (simp only [AH.zN, AH.zP] at this ⊢; omega) | (simp only [AH.zN, AH.zP] at this; omega)))
 have pgk2zm15 := (pgk2zm14.ext (by ((repeat' (first | exact Ext.refl _ | assumption | refine Ext.trans ?_ (Ext.new _ _) | refine Ext.put ?_ ?_ _ | refine Ext.trans ?_ (by assumption))) <;> (first | omega | (simp only [AH.zN, AH.zP] <;> omega))))).out hX15 P15 (fun b hb => .inr (by have := fg.lo b (by rw [hRg]; simp [hb]); first | omega | (simp only [AH.zN, AH.zP] at this ⊢; omega) | (simp only [AH.zN, AH.zP] at this; omega)))
 have kn : ¬ (1 + (nmL x0.1 : Nat) + (nmL x0.2 : Nat) + (nmL x2 : Nat) : Int) < 0 := by omega
 simp (maxSteps := 2000000) (disch := first | omega | (simp only [AH.zN, AH.zP] <;> omega) | fail) only [amR Tryd.prog ro X, amS, seval, reduceCtorEq, ty3, ty4, ty9, ty22, ty24, ty27, ty29, ty45, ty46, ty48, ty50, ty51, ty53, hbig1, hE1.get, hE2.get, hE3.get, hE4.get, hE5.get, hE6.get, hE7.get, hE8.get, hE9.get, hE10.get, hE11.get, hE12.get, hE13.get, hK14, hK15, kn]
 refine (Law.eq_Space _ (by first | omega | (simp only [AH.zN, AH.zP] <;> omega)) y y _ _ _ _ (rep_Space.2 ⟨rgk1, rgk2, _, _, rfl, rfl, pgk1zm15.ext (by ((repeat' (first | exact Ext.refl _ | assumption | refine Ext.trans ?_ (Ext.new _ _) | refine Ext.put ?_ ?_ _ | refine Ext.trans ?_ (by assumption))) <;> (first | omega | (simp only [AH.zN, AH.zP] <;> omega)))), pgk2zm15.ext (by ((repeat' (first | exact Ext.refl _ | assumption | refine Ext.trans ?_ (Ext.new _ _) | refine Ext.put ?_ ?_ _ | refine Ext.trans ?_ (by assumption))) <;> (first | omega | (simp only [AH.zN, AH.zP] <;> omega))))⟩) (rep_Space.2 ⟨rwk1, rwk2, _, _, rfl, rfl, pwk1.ext (by ((repeat' (first | exact Ext.refl _ | assumption | refine Ext.trans ?_ (Ext.new _ _) | refine Ext.put ?_ ?_ _ | refine Ext.trans ?_ (by assumption))) <;> (first | omega | (simp only [AH.zN, AH.zP] <;> omega)))), pwk2.ext (by ((repeat' (first | exact Ext.refl _ | assumption | refine Ext.trans ?_ (Ext.new _ _) | refine Ext.put ?_ ?_ _ | refine Ext.trans ?_ (by assumption))) <;> (first | omega | (simp only [AH.zN, AH.zP] <;> omega))))⟩) (by omega)).mono ?_
 rintro r B16 ⟨rfl, hE16⟩
 have v16 := hE16.size
 try simp only [AH.zN, AH.zP] at v16
 simp (maxSteps := 2000000) (disch := first | omega | (simp only [AH.zN, AH.zP] <;> omega) | fail) only [amR Tryd.prog ro X, amS, seval, reduceCtorEq, ty3, ty4, ty9, ty22, ty24, ty27, ty29, ty45, ty46, ty48, ty50, ty51, ty53, hbig1, hE1.get, hE2.get, hE3.get, hE4.get, hE5.get, hE6.get, hE7.get, hE8.get, hE9.get, hE10.get, hE11.get, hE12.get, hE13.get, hK14, hK15, kn, hE16.get]
 refine (Law.mk_Space _ (by first | omega | (simp only [AH.zN, AH.zP] <;> omega)) rgk1 _ _ rgk2 _ _ (1) (pgk1zm15.ext (by ((repeat' (first | exact Ext.refl _ | assumption | refine Ext.trans ?_ (Ext.new _ _) | refine Ext.put ?_ ?_ _ | refine Ext.trans ?_ (by assumption))) <;> (first | omega | (simp only [AH.zN, AH.zP] <;> omega))))) (fun b hb => by have := fg.lo b (by rw [hRg]; simp [hb]); first | omega | (simp only [AH.zN, AH.zP] at this ⊢; omega) | (simp only [AH.zN, AH.zP] at this; omega)) (pgk2zm15.ext (by ((repeat' (first | exact Ext.refl _ | assumption | refine Ext.trans ?_ (Ext.new _ _) | refine Ext.put ?_ ?_ _ | refine Ext.trans ?_ (by assumption))) <;> (first | omega | (simp only [AH.zN, AH.zP] <;> omega))))) (fun b hb => by have := fg.lo b (by rw [hRg]; simp [hb]); first | omega | (simp only [AH.zN, AH.zP] at this ⊢; omega) | (simp only [AH.zN, AH.zP] at this; omega)) (by rw [← hRg]; exact fg.nodup) ⟨by omega, by omega⟩).mono ?_
 rintro r B17 ⟨rfl, a17k1, a17k2, hX17⟩
 have v17 := hX17.size
 try simp only [AH.zN, AH.zP] at v17
 have P17 := (fun b hb => fg.both b (by rw [hRg]; exact hb))
 have hK17 := hX17.out P17
 have EA17 : Ext A B17 := hX17.base P17 (by ((repeat' (first | exact Ext.refl _ | assumption | refine Ext.trans ?_ (Ext.new _ _) | refine Ext.put ?_ ?_ _ | refine Ext.trans ?_ (by assumption))) <;> (first | omega | (simp only [AH.zN, AH.zP] <;> omega)))) (by first | omega | (simp only [AH.zN, AH.zP] <;> omega))
 have EW17 : Ext B5 B17 := hX17.base P17 (by ((repeat' (first | exact Ext.refl _ | assumption | refine Ext.trans ?_ (Ext.new _ _) | refine Ext.put ?_ ?_ _ | refine Ext.trans ?_ (by assumption))) <;> (first | omega | (simp only [AH.zN, AH.zP] <;> omega)))) (by first | omega | (simp only [AH.zN, AH.zP] <;> omega))
 have kr0 : ¬ (1 + (nmL y.1 : Nat) + (nmL y.2 : Nat) : Int) < 0 := by omega
 simp (maxSteps := 2000000) (disch := first | omega | (simp only [AH.zN, AH.zP] <;> omega) | fail) only [amR Tryd.prog ro X, amS, seval, reduceCtorEq, ty3, ty4, ty9, ty22, ty24, ty27, ty29, ty45, ty46, ty48, ty50, ty51, ty53, hbig1, hE1.get, hE2.get, hE3.get, hE4.get, hE5.get, hE6.get, hE7.get, hE8.get, hE9.get, hE10.get, hE11.get, hE12.get, hE13.get, hK14, hK15, kn, hE16.get, hK17, kr0]
 refine (Law.hd_Space _ (by first | omega | (simp only [AH.zN, AH.zP] <;> omega)) rgk1 _ _ rgk2 _ _ (1) (a17k1.ext (by ((repeat' (first | exact Ext.refl _ | assumption | refine Ext.trans ?_ (Ext.new _ _) | refine Ext.put ?_ ?_ _ | refine Ext.trans ?_ (by assumption))) <;> (first | omega | (simp only [AH.zN, AH.zP] <;> omega))))) (a17k2.ext (by ((repeat' (first | exact Ext.refl _ | assumption | refine Ext.trans ?_ (Ext.new _ _) | refine Ext.put ?_ ?_ _ | refine Ext.trans ?_ (by assumption))) <;> (first | omega | (simp only [AH.zN, AH.zP] <;> omega))))) ⟨by omega, by omega⟩).mono ?_
 rintro r B18 ⟨rfl, hE18⟩
 have v18 := hE18.size
 try simp only [AH.zN, AH.zP] at v18
 simp (maxSteps := 2000000) (disch := first | omega | (simp only [AH.zN, AH.zP] <;> omega) | fail) only [amR Tryd.prog ro X, amS, seval, reduceCtorEq, ty3, ty4, ty9, ty22, ty24, ty27, ty29, ty45, ty46, ty48, ty50, ty51, ty53, hbig1, hE1.get, hE2.get, hE3.get, hE4.get, hE5.get, hE6.get, hE7.get, hE8.get, hE9.get, hE10.get, hE11.get, hE12.get, hE13.get, hK14, hK15, kn, hE16.get, hK17, kr0, hE18.get]
 refine Wp.runG [1] (by kernel_rfl) (.inr (by intro v e A h; simp only [amK, amQ, thenQ, blockQ, endQ, reduceCtorEq, false_and, exists_false] at h)) ?_
 simp (maxSteps := 2000000) (disch := first | omega | (simp only [AH.zN, AH.zP] <;> omega) | fail) only [amR Tryd.prog ro X, amS, seval, reduceCtorEq, ty3, ty4, ty9, ty22, ty24, ty27, ty29, ty45, ty46, ty48, ty50, ty51, ty53, hbig1, hE1.get, hE2.get, hE3.get, hE4.get, hE5.get, hE6.get, hE7.get, hE8.get, hE9.get, hE10.get, hE11.get, hE12.get, hE13.get, hK14, hK15, kn, hE16.get, hK17, kr0, hE18.get]
 refine (Law.to_Space _ (by first | omega | (simp only [AH.zN, AH.zP] <;> omega)) x0 _ _ (Dat.ext h0 (by ((repeat' (first | exact Ext.refl _ | assumption | refine Ext.trans ?_ (Ext.new _ _) | refine Ext.put ?_ ?_ _ | refine Ext.trans ?_ (by assumption))) <;> (first | omega | (simp only [AH.zN, AH.zP] <;> omega))))) (by omega)).mono ?_
 rintro r B19 ⟨cc, H0z, rfl, qq, f0z, hE19⟩
 obtain ⟨t0k1z, t0k2z, G0k1z, G0k2z, rfl, hH0z, q0k1z, q0k2z⟩ := rep_Space.1 qq
 have v19 := hE19.size
 try simp only [AH.zN, AH.zP] at v19
 simp (maxSteps := 2000000) (disch := first | omega | (simp only [AH.zN, AH.zP] <;> omega) | fail) only [amR Tryd.prog ro X, amS, seval, reduceCtorEq, ty3, ty4, ty9, ty22, ty24, ty27, ty29, ty45, ty46, ty48, ty50, ty51, ty53, hbig1, hE1.get, hE2.get, hE3.get, hE4.get, hE5.get, hE6.get, hE7.get, hE8.get, hE9.get, hE10.get, hE11.get, hE12.get, hE13.get, hK14, hK15, kn, hE16.get, hK17, kr0, hE18.get]
 refine ⟨fun b hb => hE19.get b hb, ?_⟩
 try simp (maxSteps := 2000000) (disch := first | omega | (simp only [AH.zN, AH.zP] <;> omega) | fail) only [amR Tryd.prog ro X, amS, seval, reduceCtorEq, ty3, ty4, ty9, ty22, ty24, ty27, ty29, ty45, ty46, ty48, ty50, ty51, ty53, hbig1, hE1.get, hE2.get, hE3.get, hE4.get, hE5.get, hE6.get, hE7.get, hE8.get, hE9.get, hE10.get, hE11.get, hE12.get, hE13.get, hK14, hK15, kn, hE16.get, hK17, kr0, hE18.get, hE19.get]
 refine (Law.to_Program _ (by first | omega | (simp only [AH.zN, AH.zP] <;> omega)) x2 _ _ (Dat.ext h2 (by ((repeat' (first | exact Ext.refl _ | assumption | refine Ext.trans ?_ (Ext.new _ _) | refine Ext.put ?_ ?_ _ | refine Ext.trans ?_ (by assumption))) <;> (first | omega | (simp only [AH.zN, AH.zP] <;> omega))))) (by omega)).mono ?_
 rintro r B20 ⟨cc, H2z, rfl, qq, f2z, hE20⟩
 obtain ⟨t2k1z, G2k1z, rfl, hH2z, q2k1z⟩ := rep_Program.1 qq
 have v20 := hE20.size
 try simp only [AH.zN, AH.zP] at v20
 simp (maxSteps := 2000000) (disch := first | omega | (simp only [AH.zN, AH.zP] <;> omega) | fail) only [amR Tryd.prog ro X, amS, seval, reduceCtorEq, ty3, ty4, ty9, ty22, ty24, ty27, ty29, ty45, ty46, ty48, ty50, ty51, ty53, hbig1, hE1.get, hE2.get, hE3.get, hE4.get, hE5.get, hE6.get, hE7.get, hE8.get, hE9.get, hE10.get, hE11.get, hE12.get, hE13.get, hK14, hK15, kn, hE16.get, hK17, kr0, hE18.get, hE19.get, hE20.get]
 refine (PutTI.implTgt_a hXS _ (by first | omega | (simp only [AH.zN, AH.zP] <;> omega)) (hT.ext (by ((repeat' (first | exact Ext.refl _ | assumption | refine Ext.trans ?_ (Ext.new _ _) | refine Ext.put ?_ ?_ _ | refine Ext.trans ?_ (by assumption))) <;> (first | omega | (simp only [AH.zN, AH.zP] <;> omega))))) t0k1z t0k2z x0 _ _ (q0k1z.ext (by ((repeat' (first | exact Ext.refl _ | assumption | refine Ext.trans ?_ (Ext.new _ _) | refine Ext.put ?_ ?_ _ | refine Ext.trans ?_ (by assumption))) <;> (first | omega | (simp only [AH.zN, AH.zP] <;> omega))))) (q0k2z.ext (by ((repeat' (first | exact Ext.refl _ | assumption | refine Ext.trans ?_ (Ext.new _ _) | refine Ext.put ?_ ?_ _ | refine Ext.trans ?_ (by assumption))) <;> (first | omega | (simp only [AH.zN, AH.zP] <;> omega))))) (by omega) (by omega) hpp x1 (by unfold BIG; omega) t2k1z x2 _ (q2k1z.ext (by ((repeat' (first | exact Ext.refl _ | assumption | refine Ext.trans ?_ (Ext.new _ _) | refine Ext.put ?_ ?_ _ | refine Ext.trans ?_ (by assumption))) <;> (first | omega | (simp only [AH.zN, AH.zP] <;> omega))))) (by omega)).mono ?_
 rintro r B21 ⟨cc, Fh, rfl, qq, fh, hE21⟩
 rw [← hy] at qq
 obtain ⟨rhk1, rhk2, Rhk1, Rhk2, rfl, hRh, phk1, phk2⟩ := rep_Space.1 qq
 have v21 := hE21.size
 try simp only [AH.zN, AH.zP] at v21
 simp (maxSteps := 2000000) (disch := first | omega | (simp only [AH.zN, AH.zP] <;> omega) | fail) only [amR Tryd.prog ro X, amS, seval, reduceCtorEq, ty3, ty4, ty9, ty22, ty24, ty27, ty29, ty45, ty46, ty48, ty50, ty51, ty53, hbig1, hE1.get, hE2.get, hE3.get, hE4.get, hE5.get, hE6.get, hE7.get, hE8.get, hE9.get, hE10.get, hE11.get, hE12.get, hE13.get, hK14, hK15, kn, hE16.get, hK17, kr0, hE18.get, hE19.get, hE20.get, hE21.get]
 refine (Law.eq_Space _ (by first | omega | (simp only [AH.zN, AH.zP] <;> omega)) y y _ _ _ _ (rep_Space.2 ⟨rhk1, rhk2, _, _, rfl, rfl, phk1.ext (by ((repeat' (first | exact Ext.refl _ | assumption | refine Ext.trans ?_ (Ext.new _ _) | refine Ext.put ?_ ?_ _ | refine Ext.trans ?_ (by assumption))) <;> (first | omega | (simp only [AH.zN, AH.zP] <;> omega)))), phk2.ext (by ((repeat' (first | exact Ext.refl _ | assumption | refine Ext.trans ?_ (Ext.new _ _) | refine Ext.put ?_ ?_ _ | refine Ext.trans ?_ (by assumption))) <;> (first | omega | (simp only [AH.zN, AH.zP] <;> omega))))⟩) (rep_Space.2 ⟨rwk1, rwk2, _, _, rfl, rfl, pwk1.ext (by ((repeat' (first | exact Ext.refl _ | assumption | refine Ext.trans ?_ (Ext.new _ _) | refine Ext.put ?_ ?_ _ | refine Ext.trans ?_ (by assumption))) <;> (first | omega | (simp only [AH.zN, AH.zP] <;> omega)))), pwk2.ext (by ((repeat' (first | exact Ext.refl _ | assumption | refine Ext.trans ?_ (Ext.new _ _) | refine Ext.put ?_ ?_ _ | refine Ext.trans ?_ (by assumption))) <;> (first | omega | (simp only [AH.zN, AH.zP] <;> omega))))⟩) (by omega)).mono ?_
 rintro r B22 ⟨rfl, hE22⟩
 have v22 := hE22.size
 try simp only [AH.zN, AH.zP] at v22
 simp (maxSteps := 2000000) (disch := first | omega | (simp only [AH.zN, AH.zP] <;> omega) | fail) only [amR Tryd.prog ro X, amS, seval, reduceCtorEq, ty3, ty4, ty9, ty22, ty24, ty27, ty29, ty45, ty46, ty48, ty50, ty51, ty53, hbig1, hE1.get, hE2.get, hE3.get, hE4.get, hE5.get, hE6.get, hE7.get, hE8.get, hE9.get, hE10.get, hE11.get, hE12.get, hE13.get, hK14, hK15, kn, hE16.get, hK17, kr0, hE18.get, hE19.get, hE20.get, hE21.get, hE22.get]
 refine (Law.hd_Space _ (by first | omega | (simp only [AH.zN, AH.zP] <;> omega)) rgk1 _ _ rgk2 _ _ (1) (a17k1.ext (by ((repeat' (first | exact Ext.refl _ | assumption | refine Ext.trans ?_ (Ext.new _ _) | refine Ext.put ?_ ?_ _ | refine Ext.trans ?_ (by assumption))) <;> (first | omega | (simp only [AH.zN, AH.zP] <;> omega))))) (a17k2.ext (by ((repeat' (first | exact Ext.refl _ | assumption | refine Ext.trans ?_ (Ext.new _ _) | refine Ext.put ?_ ?_ _ | refine Ext.trans ?_ (by assumption))) <;> (first | omega | (simp only [AH.zN, AH.zP] <;> omega))))) ⟨by omega, by omega⟩).mono ?_
 rintro r B23 ⟨rfl, hE23⟩
 have v23 := hE23.size
 try simp only [AH.zN, AH.zP] at v23
 simp (maxSteps := 2000000) (disch := first | omega | (simp only [AH.zN, AH.zP] <;> omega) | fail) only [amR Tryd.prog ro X, amS, seval, reduceCtorEq, ty3, ty4, ty9, ty22, ty24, ty27, ty29, ty45, ty46, ty48, ty50, ty51, ty53, hbig1, hE1.get, hE2.get, hE3.get, hE4.get, hE5.get, hE6.get, hE7.get, hE8.get, hE9.get, hE10.get, hE11.get, hE12.get, hE13.get, hK14, hK15, kn, hE16.get, hK17, kr0, hE18.get, hE19.get, hE20.get, hE21.get, hE22.get, hE23.get]
end Go.Proofs.YtjlbcofopapajaaDoor.Amu.LPutTarget
