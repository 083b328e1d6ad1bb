import Derived.Test.YtjlbcofopapajaaDoorAmuTy
import Derived.Test.YtjlbcofopapajaaDoorAmuParse
import Derived.Test.YtjlbcofopapajaaDoorAmuParS
import Derived.Test.YtjlbcofopapajaaDoorAmuLawA
import Derived.Test.YtjlbcofopapajaaDoorAmuPrsS
import Derived.Test.YtjlbcofopapajaaDoorAmuLawB
namespace Go.Proofs.YtjlbcofopapajaaDoor.Amu.LParseProgram
open Go Go.AM Go.Proofs
set_option linter.all false
set_option maxHeartbeats 4000000
open Ty
variable {ro : Nat} {X : FuncId → List Value → AH → ARes → AH → Prop}
set_option maxRecDepth 10000
theorem law_a (A : AH) (hro : ro ≤ A.size) (hT : Tab 0 A) (hP : Pow 1 A) (hES : ErrV 3 A) (hER : ErrV 4 A) (hXP : ∀ f args A r A', PrsX 151 232 252 300 3 4 ro f args A r A' → X f args A r A') (x0 : ByteArray) (hx0 : x0.size < 4611686018427387904) :
 ACalls Tryd.prog ro X 7 [.string x0] A (fun r _ => r = .ret (.bool true)) := by
 refine ACalls.enterQ (rs := [.tmp 2]) Tryd.func7 rfl (by kernel_rfl) rfl ?_
 by_cases hbig0 : (1048576 : Int) < x0.size
 ·simp (maxSteps := 2000000) (disch := first | omega | (simp only [AH.zN, AH.zP] <;> omega) | fail) only [amR Tryd.prog ro X, amS, seval, reduceCtorEq, ty3, ty4, ty9, ty27, ty29, ty64, hbig0]
 simp (maxSteps := 2000000) (disch := first | omega | (simp only [AH.zN, AH.zP] <;> omega) | fail) only [amR Tryd.prog ro X, amS, seval, reduceCtorEq, ty3, ty4, ty9, ty27, ty29, ty64, hbig0]
 obtain ⟨y, hy⟩ : ∃ y, y = (parseS x0).1 := ⟨_, rfl⟩
 have ysz : Mk.sz y < 1073741824 := by
  rw [hy]
  have := parseS_sz x0
  omega
 have yl1 : Mk.sz y = szL Mk.sz y := rfl
 have yn1 := nmL_Ins y
 refine (ParS.spec_a _ (by first | omega | (simp only [AH.zN, AH.zP] <;> omega)) x0 (by omega)).mono ?_
 rintro r B1 ⟨cc, Fw, rfl, qq, _, hE1⟩
 rw [← hy] at qq
 have bdw := Dat.bound qq
 obtain ⟨rwk1, Rwk1, rfl, hRw, pwk1⟩ := rep_Program.1 qq
 have v1 := hE1.size
 try simp only [AH.zN, AH.zP] at v1
 simp (maxSteps := 2000000) (disch := first | omega | (simp only [AH.zN, AH.zP] <;> omega) | fail) only [amR Tryd.prog ro X, amS, seval, reduceCtorEq, ty3, ty4, ty9, ty27, ty29, ty64, hbig0, hE1.get]
 refine (Parse.impl_a hXP _ (by first | omega | (simp only [AH.zN, AH.zP] <;> omega)) (hT.ext (by ((repeat' (first | exact Ext.refl _ | assumption | refine Ext.trans ?_ (Ext.new _ _) | refine Ext.put ?_ ?_ _ | refine Ext.trans ?_ (by assumption))) <;> (first | omega | (simp only [AH.zN, AH.zP] <;> omega))))) (hP.ext (by ((repeat' (first | exact Ext.refl _ | assumption | refine Ext.trans ?_ (Ext.new _ _) | refine Ext.put ?_ ?_ _ | refine Ext.trans ?_ (by assumption))) <;> (first | omega | (simp only [AH.zN, AH.zP] <;> omega))))) (hES.ext (by ((repeat' (first | exact Ext.refl _ | assumption | refine Ext.trans ?_ (Ext.new _ _) | refine Ext.put ?_ ?_ _ | refine Ext.trans ?_ (by assumption))) <;> (first | omega | (simp only [AH.zN, AH.zP] <;> omega))))) (hER.ext (by ((repeat' (first | exact Ext.refl _ | assumption | refine Ext.trans ?_ (Ext.new _ _) | refine Ext.put ?_ ?_ _ | refine Ext.trans ?_ (by assumption))) <;> (first | omega | (simp only [AH.zN, AH.zP] <;> omega))))) x0 (by omega)).mono ?_
 rintro r B2 ⟨cc, Fg, rfl, qq, fg, hE2⟩
 rw [← hy] at qq
 obtain ⟨rgk1, Rgk1, rfl, hRg, pgk1⟩ := rep_Program.1 qq
 have v2 := hE2.size
 try simp only [AH.zN, AH.zP] at v2
 simp (maxSteps := 2000000) (disch := first | omega | (simp only [AH.zN, AH.zP] <;> omega) | fail) only [amR Tryd.prog ro X, amS, seval, reduceCtorEq, ty3, ty4, ty9, ty27, ty29, ty64, hbig0, hE1.get, hE2.get]
 refine (Law.eq_Program _ (by first | omega | (simp only [AH.zN, AH.zP] <;> omega)) y y _ _ _ _ (rep_Program.2 ⟨rgk1, _, rfl, rfl, pgk1.ext (by ((repeat' (first | exact Ext.refl _ | assumption | refine Ext.trans ?_ (Ext.new _ _) | refine Ext.put ?_ ?_ _ | refine Ext.trans ?_ (by assumption))) <;> (first | omega | (simp only [AH.zN, AH.zP] <;> omega))))⟩) (rep_Program.2 ⟨rwk1, _, rfl, rfl, pwk1.ext (by ((repeat' (first | exact Ext.refl _ | assumption | refine Ext.trans ?_ (Ext.new _ _) | refine Ext.put ?_ ?_ _ | refine Ext.trans ?_ (by assumption))) <;> (first | omega | (simp only [AH.zN, AH.zP] <;> omega))))⟩) (by omega)).mono ?_
 rintro r B3 ⟨rfl, hE3⟩
 have v3 := hE3.size
 try simp only [AH.zN, AH.zP] at v3
 simp (maxSteps := 2000000) (disch := first | omega | (simp only [AH.zN, AH.zP] <;> omega) | fail) only [amR Tryd.prog ro X, amS, seval, reduceCtorEq, ty3, ty4, ty9, ty27, ty29, ty64, hbig0, hE1.get, hE2.get, hE3.get]
 refine (Law.eq_Fault _ (by first | omega | (simp only [AH.zN, AH.zP] <;> omega)) (parseS x0).2 (parseS x0).2 _ _ _ _ (rep_Fault.2 ⟨rfl, rfl, trivial⟩) (rep_Fault.2 ⟨rfl, rfl, trivial⟩) (by show 0 < _; omega)).mono ?_
 rintro r B4 ⟨rfl, hE4⟩
 have v4 := hE4.size
 try simp only [AH.zN, AH.zP] at v4
 simp (maxSteps := 2000000) (disch := first | omega | (simp only [AH.zN, AH.zP] <;> omega) | fail) only [amR Tryd.prog ro X, amS, seval, reduceCtorEq, ty3, ty4, ty9, ty27, ty29, ty64, hbig0, hE1.get, hE2.get, hE3.get, hE4.get]
 refine (Law.mk_Program _ (by first | omega | (simp only [AH.zN, AH.zP] <;> omega)) rgk1 _ _ (1) (pgk1.ext (by ((repeat' (first | exact Ext.refl _ | assumption | refine Ext.trans ?_ (Ext.new _ _) | refine Ext.put ?_ ?_ _ | refine Ext.trans ?_ (by assumption))) <;> (first | omega | (simp only [AH.zN, AH.zP] <;> omega))))) (fun b hb => by have := fg.lo b (by rw [hRg]; simp [hb]); first | omega | (simp only [AH.zN, AH.zP] at this ⊢; omega) | (simp only [AH.zN, AH.zP] at this; omega)) (by rw [← hRg]; exact fg.nodup) ⟨by omega, by omega⟩).mono ?_
 rintro r B5 ⟨rfl, a5k1, hX5⟩
 have v5 := hX5.size
 try simp only [AH.zN, AH.zP] at v5
 have P5 := (fun b hb => fg.both b (by rw [hRg]; exact hb))
 have hK5 := hX5.out P5
 have EA5 : Ext A B5 := hX5.base P5 (by ((repeat' (first | exact Ext.refl _ | assumption | refine Ext.trans ?_ (Ext.new _ _) | refine Ext.put ?_ ?_ _ | refine Ext.trans ?_ (by assumption))) <;> (first | omega | (simp only [AH.zN, AH.zP] <;> omega)))) (by first | omega | (simp only [AH.zN, AH.zP] <;> omega))
 have EW5 : Ext B1 B5 := hX5.base P5 (by ((repeat' (first | exact Ext.refl _ | assumption | refine Ext.trans ?_ (Ext.new _ _) | refine Ext.put ?_ ?_ _ | refine Ext.trans ?_ (by assumption))) <;> (first | omega | (simp only [AH.zN, AH.zP] <;> omega)))) (by first | omega | (simp only [AH.zN, AH.zP] <;> omega))
 have kr0 : ¬ (1 + (nmL y : Nat) : Int) < 0 := by omega
 simp (maxSteps := 2000000) (disch := first | omega | (simp only [AH.zN, AH.zP] <;> omega) | fail) only [amR Tryd.prog ro X, amS, seval, reduceCtorEq, ty3, ty4, ty9, ty27, ty29, ty64, hbig0, hE1.get, hE2.get, hE3.get, hE4.get, hK5, kr0]
 refine (Law.hd_Program _ (by first | omega | (simp only [AH.zN, AH.zP] <;> omega)) rgk1 _ _ (1) (a5k1.ext (by ((repeat' (first | exact Ext.refl _ | assumption | refine Ext.trans ?_ (Ext.new _ _) | refine Ext.put ?_ ?_ _ | refine Ext.trans ?_ (by assumption))) <;> (first | omega | (simp only [AH.zN, AH.zP] <;> omega))))) ⟨by omega, by omega⟩).mono ?_
 rintro r B6 ⟨rfl, hE6⟩
 have v6 := hE6.size
 try simp only [AH.zN, AH.zP] at v6
 simp (maxSteps := 2000000) (disch := first | omega | (simp only [AH.zN, AH.zP] <;> omega) | fail) only [amR Tryd.prog ro X, amS, seval, reduceCtorEq, ty3, ty4, ty9, ty27, ty29, ty64, hbig0, hE1.get, hE2.get, hE3.get, hE4.get, hK5, kr0, hE6.get]
 refine (Parse.impl_a hXP _ (by first | omega | (simp only [AH.zN, AH.zP] <;> omega)) (hT.ext (by ((repeat' (first | exact Ext.refl _ | assumption | refine Ext.trans ?_ (Ext.new _ _) | refine Ext.put ?_ ?_ _ | refine Ext.trans ?_ (by assumption))) <;> (first | omega | (simp only [AH.zN, AH.zP] <;> omega))))) (hP.ext (by ((repeat' (first | exact Ext.refl _ | assumption | refine Ext.trans ?_ (Ext.new _ _) | refine Ext.put ?_ ?_ _ | refine Ext.trans ?_ (by assumption))) <;> (first | omega | (simp only [AH.zN, AH.zP] <;> omega))))) (hES.ext (by ((repeat' (first | exact Ext.refl _ | assumption | refine Ext.trans ?_ (Ext.new _ _) | refine Ext.put ?_ ?_ _ | refine Ext.trans ?_ (by assumption))) <;> (first | omega | (simp only [AH.zN, AH.zP] <;> omega))))) (hER.ext (by ((repeat' (first | exact Ext.refl _ | assumption | refine Ext.trans ?_ (Ext.new _ _) | refine Ext.put ?_ ?_ _ | refine Ext.trans ?_ (by assumption))) <;> (first | omega | (simp only [AH.zN, AH.zP] <;> omega))))) x0 (by omega)).mono ?_
 rintro r B7 ⟨cc, Fh, rfl, qq, fh, hE7⟩
 rw [← hy] at qq
 obtain ⟨rhk1, Rhk1, rfl, hRh, phk1⟩ := rep_Program.1 qq
 have v7 := hE7.size
 try simp only [AH.zN, AH.zP] at v7
 simp (maxSteps := 2000000) (disch := first | omega | (simp only [AH.zN, AH.zP] <;> omega) | fail) only [amR Tryd.prog ro X, amS, seval, reduceCtorEq, ty3, ty4, ty9, ty27, ty29, ty64, hbig0, hE1.get, hE2.get, hE3.get, hE4.get, hK5, kr0, hE6.get, hE7.get]
 refine (Law.eq_Program _ (by first | omega | (simp only [AH.zN, AH.zP] <;> omega)) y y _ _ _ _ (rep_Program.2 ⟨rhk1, _, rfl, rfl, phk1.ext (by ((repeat' (first | exact Ext.refl _ | assumption | refine Ext.trans ?_ (Ext.new _ _) | refine Ext.put ?_ ?_ _ | refine Ext.trans ?_ (by assumption))) <;> (first | omega | (simp only [AH.zN, AH.zP] <;> omega))))⟩) (rep_Program.2 ⟨rwk1, _, rfl, rfl, pwk1.ext (by ((repeat' (first | exact Ext.refl _ | assumption | refine Ext.trans ?_ (Ext.new _ _) | refine Ext.put ?_ ?_ _ | refine Ext.trans ?_ (by assumption))) <;> (first | omega | (simp only [AH.zN, AH.zP] <;> omega))))⟩) (by omega)).mono ?_
 rintro r B8 ⟨rfl, hE8⟩
 have v8 := hE8.size
 try simp only [AH.zN, AH.zP] at v8
 simp (maxSteps := 2000000) (disch := first | omega | (simp only [AH.zN, AH.zP] <;> omega) | fail) only [amR Tryd.prog ro X, amS, seval, reduceCtorEq, ty3, ty4, ty9, ty27, ty29, ty64, hbig0, hE1.get, hE2.get, hE3.get, hE4.get, hK5, kr0, hE6.get, hE7.get, hE8.get]
 refine (Law.eq_Fault _ (by first | omega | (simp only [AH.zN, AH.zP] <;> omega)) (parseS x0).2 (parseS x0).2 _ _ _ _ (rep_Fault.2 ⟨rfl, rfl, trivial⟩) (rep_Fault.2 ⟨rfl, rfl, trivial⟩) (by show 0 < _; omega)).mono ?_
 rintro r B9 ⟨rfl, hE9⟩
 have v9 := hE9.size
 try simp only [AH.zN, AH.zP] at v9
 simp (maxSteps := 2000000) (disch := first | omega | (simp only [AH.zN, AH.zP] <;> omega) | fail) only [amR Tryd.prog ro X, amS, seval, reduceCtorEq, ty3, ty4, ty9, ty27, ty29, ty64, hbig0, hE1.get, hE2.get, hE3.get, hE4.get, hK5, kr0, hE6.get, hE7.get, hE8.get, hE9.get]
 refine (Law.hd_Program _ (by first | omega | (simp only [AH.zN, AH.zP] <;> omega)) rgk1 _ _ (1) (a5k1.ext (by ((repeat' (first | exact Ext.refl _ | assumption | refine Ext.trans ?_ (Ext.new _ _) | refine Ext.put ?_ ?_ _ | refine Ext.trans ?_ (by assumption))) <;> (first | omega | (simp only [AH.zN, AH.zP] <;> omega))))) ⟨by omega, by omega⟩).mono ?_
 rintro r B10 ⟨rfl, hE10⟩
 have v10 := hE10.size
 try simp only [AH.zN, AH.zP] at v10
 simp (maxSteps := 2000000) (disch := first | omega | (simp only [AH.zN, AH.zP] <;> omega) | fail) only [amR Tryd.prog ro X, amS, seval, reduceCtorEq, ty3, ty4, ty9, ty27, ty29, ty64, hbig0, hE1.get, hE2.get, hE3.get, hE4.get, hK5, kr0, hE6.get, hE7.get, hE8.get, hE9.get, hE10.get]
end Go.Proofs.YtjlbcofopapajaaDoor.Amu.LParseProgram
