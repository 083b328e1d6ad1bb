import Derived.Test.YtmelgjblkmbhjaaGreatDoorAmuTy
import Derived.Test.YtmelgjblkmbhjaaGreatDoorAmMake
import Derived.Test.YtmelgjblkmbhjaaGreatDoorAmuProg
import Derived.Test.YtmelgjblkmbhjaaGreatDoorAmuUnder
import Derived.Test.YtmelgjblkmbhjaaGreatDoorAmuMRun
namespace Go.Proofs.YtmelgjblkmbhjaaGreatDoor.Amu.Mk
open Go Go.AM Go.Proofs
set_option linter.all false
set_option linter.defProp false
open Ty
variable {ro : Nat} {X : FuncId → List Value → AH → ARes → AH → Prop}
set_option maxRecDepth 10000
abbrev CS := List (ByteArray × List TSeen)
def J0 : AH → CS → List Nat → Prop := fun _ _ F => F = []
theorem J0_ok (top : Nat) : JOk top J0 := ⟨fun A A' x F h _ _ => h⟩
theorem J0_ext {K : Mkc} {A : AH} {S : Shop CS} {os ms : Sl} {es3 es4 : SMap} {FJ : List Nat} (h : MkV K J0 A S os ms es3 es4 FJ) (x : CS) : MkV K J0 A ⟨S.asked, S.made, S.stack, x⟩ os ms es3 es4 FJ :=
 ⟨h.k, h.gp, h.g3, h.m3, h.g4, h.m4, h.so, h.sm, h.ne, h.j, h.jl⟩
set_option maxHeartbeats 4000000 in
theorem mk_a {K : Mkc} {pv : Stop → Value → AH → Prop} {d : Nat} {und : Under CS} (hB : ro ≤ K.B.size) (hT : Tab 0 K.B) (hP : Pow 6 K.B) (hu : UndOk K.sp 202 und)
 (hU : UndC Tryz.prog ro X 96 K J0 pv 202 d und) : MkC Tryz.prog ro X 93 #[] #[.pointer (some ⟨K.cv, 0, none⟩)] K J0 pv 202 d (cleanMk K.sp und) := by
 intro A S os ms es3 es4 FJ n p cs F hro hV hS hn hok hc hRm hd
 obtain ⟨b1, b2, b3, b4, b5, b6, b7⟩ := hV.k.nums
 have htop := hV.k.top
 have hftp := hV.bound
 generalize hG : cleanMk K.sp und S n p = g
 show ACalls _ _ _ _ [.string n, .agg #[cs.v], .pointer (some ⟨K.cv, 0, none⟩)] A _
 refine ACalls.enterQ (rs := [.cell 5 79]) Tryz.func93 rfl (by kernel_rfl) rfl ?_
 have gcv := hV.k.cell
 simp (maxSteps := 2000000) (disch := first | omega | (simp only [AH.zN, AH.zP] <;> omega) | fail) only [amR Tryz.prog ro X, amS, seval, reduceCtorEq, ty3, ty9, ty22, ty56, ty58, ty76, ty79, gcv]
 generalize hH : AH.new (A.new _) _ = H
 have zH : H.size = A.size + 2 := by rw [← hH]; rfl
 have hEH : Ext A H := by rw [← hH]; exact (by ((repeat' (first | exact Ext.refl _ | assumption | refine Ext.trans ?_ (Ext.new _ _) | refine Ext.put ?_ ?_ _ | refine Ext.trans ?_ (by assumption))) <;> (first | omega | (simp only [AH.zN, AH.zP] <;> omega))))
 have gr : H.get (A.size + 1) = .cells [.int .i64 0, .string ByteArray.empty, Sl.nil.v] 3 := by rw [← hH]; exact AH.gNs _ _
 clear hH
 refine (MRun.mrun_a hB (J0_ok _) hT hP hu hU H S os ms es3 es4 FJ p cs F (by omega) (hV.ext (J0_ok _) hEH) hS hok hc hRm hd).mono ?_
 unfold cleanMk at hG
 generalize goR und K.sp p (startR p) [] S = g2 at hG ⊢
 obtain ⟨S2, res⟩ := g2
 rintro R H2 ⟨os2, ms2, es32, es42, FJ2, v2, x2, y2, hR⟩
 replace v2 : MkV K J0 H2 S2 os2 ms2 es32 es42 FJ2 := v2
 have z2 := x2.size
 have hn2 : A.size + 1 ∉ ftp K os2 ms2 FJ2 := fun hm => by
  rcases y2 _ hm with h | h
  ·have := (hftp _ h).1; omega
  ·omega
 have hX2 : ExtX (ftp K os ms FJ) A H2 := (hEH.x _).trans x2
 have gr2 := (x2.get (A.size + 1) (by omega) fun hm => by have := (hftp _ hm).1; omega).trans gr
 cases res with
 | error e =>
   obtain ⟨v, rfl, hv⟩ := hR
   simp only at hG
   subst hG
   simp (disch := first | omega | fail) only [amR Tryz.prog ro X, amS, seval, reduceCtorEq, ty3, ty9, ty22, ty56, ty58, ty76, ty79]
   exact ⟨⟨os2, ms2, es32, es42, FJ2, v2, hX2, fun b hb => (y2 b hb).imp id fun h => by omega⟩, v, rfl, hv⟩
 | ok r =>
   obtain ⟨r, l⟩ := r
   obtain ⟨sl, Fl, rfl, _⟩ := hR
   simp only at hG
   subst hG
   simp only [madeV]
   simp (disch := first | omega | fail) only [amR Tryz.prog ro X, amS, seval, reduceCtorEq, ty3, ty9, ty22, ty56, ty58, ty76, ty79, gr2]
   have hbd2 := v2.bound
   refine ⟨(J0_ext v2 _).done (J0_ok _) hX2 (fun b hb => (y2 b hb).imp id fun h => by omega) (L := [A.size + 1, H2.size]) ⟨(by first | omega | (simp only [AH.zN, AH.zP] <;> omega)), fun b hb hm => ?_⟩ (fun b hb => ?_), rfl⟩
   ·simp only [List.mem_cons, List.not_mem_nil, or_false, not_or] at hm
    rw [AH.gPo hm.1, AH.gPo hm.2, AH.gNo hm.2]
   ·simp only [List.mem_cons, List.not_mem_nil, or_false] at hb
    rcases hb with rfl | rfl
    ·exact ⟨by omega, by omega, hn2⟩
    ·exact ⟨by omega, by omega, fun hm => by have := (hbd2 _ hm).1; omega⟩
theorem under_all {K : Mkc} {pv : Stop → Value → AH → Prop} (hB : ro ≤ K.B.size) (hT : Tab 0 K.B) (hP : Pow 6 K.B) (hpv : ∀ e v A, EndV 168 K.top e v A → pv e v A) (hfv : K.fv = .func (.func 93) #[] #[.pointer (some ⟨K.cv, 0, none⟩)]) (hsp : SpOk K.sp) :
 ∀ d, UndC Tryz.prog ro X 96 K J0 pv 202 d (underG (cleanMk K.sp) K.sp d)
 | 0 => Under.under_a hB (J0_ok _) hpv hfv hsp cleanMk_ok fun e he => by cases he
 | d + 1 => Under.under_a hB (J0_ok _) hpv hfv hsp cleanMk_ok fun e he => by
   cases he
   exact mk_a hB hT hP (underG_ok hsp cleanMk_ok d) (under_all hB hT hP hpv hfv hsp d)
end Go.Proofs.YtmelgjblkmbhjaaGreatDoor.Amu.Mk
