import Derived.Test.YtjlbcofopapajaaDoorAmuTy
import Derived.Test.YtjlbcofopapajaaDoorAmRun
import Derived.Test.YtjlbcofopapajaaDoorAmPrs
import Derived.Test.YtjlbcofopapajaaDoorAmuSplit
import Derived.Test.YtjlbcofopapajaaDoorAmuRd
namespace Go.Proofs.YtjlbcofopapajaaDoor.Amu.Parse
open Go Go.AM Go.Proofs
set_option linter.all false
open Ty
variable {ro : Nat} {X : FuncId → List Value → AH → ARes → AH → Prop}
set_option maxRecDepth 10000
theorem fin_nil {A H : AH} {s : ByteArray} {a b : Int} (h : parseS s = ([], (a, b))) (hE : Ext A H) :
 ∃ cc F, ARes.ret (.tuple #[.agg #[Sl.nil.v], .agg #[.int .i64 a, .int .i64 b]]) = ARes.ret (.tuple #[.agg cc.toArray, .agg #[.int .i64 (parseS s).2.1, .int .i64 (parseS s).2.2]]) ∧ Dat.rep H (parseS s).1 cc F ∧ Fresh A F H ∧ Ext A H :=
 ⟨[Sl.nil.v], [], by rw [h], by rw [h]; exact rep_Program.2 ⟨_, _, rfl, rfl, .nil rfl rfl rfl⟩, .nil _ _, hE⟩
set_option maxHeartbeats 4000000 in
theorem impl_a (hX : Split.PX ro X) (A : AH) (hro : ro ≤ A.size) (hT : Tab 0 A) (hP : Pow 1 A) (hES : ErrV 3 A) (hER : ErrV 4 A) (s : ByteArray) (hs : s.size < 1073741824) :
 ACalls Tryd.prog ro X 32 [.string s] A (fun r A' => ∃ cc F, r = .ret (.tuple #[.agg cc.toArray, .agg #[.int .i64 (parseS s).2.1, .int .i64 (parseS s).2.2]]) ∧ Dat.rep A' (parseS s).1 cc F ∧ Fresh A F A' ∧ Ext A A') := by
 refine ACalls.enterQ (rs := [.cell 2 29, .cell 3 64]) Tryd.func32 rfl (by kernel_rfl) rfl ?_
 simp (maxSteps := 2000000) (disch := first | omega | (simp only [AH.zN, AH.zP] <;> omega) | fail) only [amR Tryd.prog ro X, amS, seval, reduceCtorEq, ty3, ty4, ty9, ty27, ty29, ty33, ty64, ty97]
 by_cases hz : s.size = 0
 ·have hse : s = ⟨#[]⟩ := ByteArray.ext (Array.eq_empty_of_size_eq_zero hz)
  subst hse
  simp (maxSteps := 2000000) (disch := first | omega | (simp only [AH.zN, AH.zP] <;> omega) | fail) only [amR Tryd.prog ro X, amS, seval, reduceCtorEq, ty3, ty4, ty9, ty27, ty29, ty33, ty64, ty97]
  exact fin_nil (parse_big (.inl hz)) (by ((repeat' (first | exact Ext.refl _ | assumption | refine Ext.trans ?_ (Ext.new _ _) | refine Ext.put ?_ ?_ _ | refine Ext.trans ?_ (by assumption))) <;> (first | omega | (simp only [AH.zN, AH.zP] <;> omega))))
 have hse : ¬ (s = ⟨#[]⟩) := fun e => hz (by rw [e]; rfl)
 by_cases hbig : (1500000 : Int) < s.size
 ·simp (maxSteps := 2000000) (disch := first | omega | (simp only [AH.zN, AH.zP] <;> omega) | fail) only [amR Tryd.prog ro X, amS, seval, reduceCtorEq, ty3, ty4, ty9, ty27, ty29, ty33, ty64, ty97, hse, hbig]
  exact fin_nil (parse_big (.inr (by omega))) (by ((repeat' (first | exact Ext.refl _ | assumption | refine Ext.trans ?_ (Ext.new _ _) | refine Ext.put ?_ ?_ _ | refine Ext.trans ?_ (by assumption))) <;> (first | omega | (simp only [AH.zN, AH.zP] <;> omega))))
 have hnb : ¬ (s.size = 0 ∨ 1500000 < s.size) := by omega
 simp (maxSteps := 2000000) (disch := first | omega | (simp only [AH.zN, AH.zP] <;> omega) | fail) only [amR Tryd.prog ro X, amS, seval, reduceCtorEq, ty3, ty4, ty9, ty27, ty29, ty33, ty64, ty97, hse, hbig]
 generalize hB1 : AH.new (AH.new A _) _ = B1
 have zB1 : B1.size = A.size + 2 := by rw [← hB1]; rfl
 have hE1 : Ext A B1 := by rw [← hB1]; exact (by ((repeat' (first | exact Ext.refl _ | assumption | refine Ext.trans ?_ (Ext.new _ _) | refine Ext.put ?_ ?_ _ | refine Ext.trans ?_ (by assumption))) <;> (first | omega | (simp only [AH.zN, AH.zP] <;> omega))))
 have ga : B1.get A.size = .cells [Sl.nil.v] 1 := by rw [← hB1]; simp (maxSteps := 2000000) (disch := first | omega | (simp only [AH.zN, AH.zP] <;> omega) | fail) only [amV, amH, amQ, amL, amN Tryd.prog, amS, seval, reduceCtorEq, ty3, ty4, ty9, ty27, ty29, ty33, ty64, ty97]
 have gb : B1.get (A.size + 1) = .cells [.int .i64 0, .int .i64 0] 2 := by rw [← hB1]; simp (maxSteps := 2000000) (disch := first | omega | (simp only [AH.zN, AH.zP] <;> omega) | fail) only [amV, amH, amQ, amL, amN Tryd.prog, amS, seval, reduceCtorEq, ty3, ty4, ty9, ty27, ty29, ty33, ty64, ty97]
 clear hB1
 refine (Split.Split_a hX B1 (by omega) s hs).mono ?_
 rintro r B2 ⟨b, rfl, hb1, hb2, hgb, hE2⟩
 have z2 := hE2.size
 have ga2 := (hE2.get A.size (by omega)).trans ga
 have gb2 := (hE2.get (A.size + 1) (by omega)).trans gb
 have hne := splitS_ne s
 have hlen := splitS_len s
 have hEA2 : Ext A B2 := hE1.trans hE2
 generalize hN : (splitS s).length = N at *
 have hsub : ((N : Int) - 1) = ((N - 1 : Nat) : Int) := by omega
 have hcut := fun H => Split.cutN (P := Tryd.prog) (t := 33) (by simp only [ty33]) H b (n := N - 1) (N := N) (by omega) (by unfold BIG; omega)
 simp (maxSteps := 2000000) (disch := first | omega | (simp only [AH.zN, AH.zP] <;> omega) | fail) only [amR Tryd.prog ro X, amS, seval, reduceCtorEq, ty3, ty4, ty9, ty27, ty29, ty33, ty64, ty97, hsub, hcut]
 generalize hB : B2.new _ = B
 have zB : B.size = B2.size + 1 := by rw [← hB]; rfl
 have hEB : Ext B2 B := by rw [← hB]; exact Ext.new _ _
 have gB : B.get B2.size = .cells [Sl.nil.v] 1 := by rw [← hB]; exact AH.gNs _ _
 clear hB
 refine Wp.loopC (fun k e A' => e 2 = .pointer (some ⟨A.size, 0, none⟩) ∧ e 3 = .pointer (some ⟨A.size + 1, 0, none⟩) ∧ e 4 = (Sl.mk false b 0 N N).v ∧ e 5 = .int .i64 (N - 1 : Nat) ∧ e 6 = .pointer (some ⟨B2.size, 0, none⟩) ∧ e 27 = (Sl.mk false b 0 (N - 1) N).v ∧ e 28 = .int .i64 (N - 1 : Nat) ∧
  (∀ x, x < B2.size → A'.get x = B2.get x) ∧ B.size ≤ A'.size ∧ ∃ i : Nat, i ≤ N - 1 ∧ k = N - 1 - i ∧ e 29 = .int .i64 i ∧ (∀ j (hj : j < i) (hj2 : j < (splitS s).length), rdS (splitS s)[j] ≠ none) ∧
  ∃ u, A'.get B2.size = .cells [Sl.v u] 1 ∧ AM.Acc B.size A' u (((splitS s).take i).filterMap rdS) [] ∧ (((splitS s).take i).filterMap rdS).length = i) (N - 1 - 0) ?_ ?_
 ·simp (maxSteps := 2000000) (disch := first | omega | (simp only [AH.zN, AH.zP] <;> omega) | fail) only [amV, amH, amQ, amL, amN Tryd.prog, amS, seval, reduceCtorEq, ty3, ty4, ty9, ty27, ty29, ty33, ty64, ty97]
  exact ⟨fun x hx => hEB.get x hx, 0, by omega, rfl, rfl, fun j hj => by omega, .nil, gB, .nil, rfl⟩
 ·rintro k e A' ⟨e2, e3, e4, e5, e6, e27, e28, lo, hzA, i, hi, rfl, e29, hall, u, hgu, hacc, hfl⟩
  have hE' : Ext B2 A' := ⟨by omega, lo⟩
  have hEA : Ext A A' := hEA2.trans hE'
  have gA1 := (lo A.size (by omega)).trans ga2
  have gA2 := (lo (A.size + 1) (by omega)).trans gb2
  have gAb := (lo b hb2).trans hgb
  simp (maxSteps := 2000000) (disch := first | omega | (simp only [AH.zN, AH.zP] <;> omega) | fail) only [amR Tryd.prog ro X, amS, seval, reduceCtorEq, ty3, ty4, ty9, ty27, ty29, ty33, ty64, ty97, e28, e29]
  refine CondB.split (fun h => ?_) (fun h => ?_)
  ·have hil : i < N - 1 := by simp at h; omega
   have hli : i < (splitS s).length := by omega
   have hcell : ((splitS s).map Value.string)[i]? = some (.string (splitS s)[i]) := by rw [List.getElem?_map, List.getElem?_eq_getElem hli]; rfl
   have hlz : (splitS s)[i].size ≤ s.size := splitS_size (List.getElem_mem hli)
   simp (maxSteps := 2000000) (disch := first | omega | (simp only [AH.zN, AH.zP] <;> omega) | fail) only [amR Tryd.prog ro X, amS, seval, reduceCtorEq, ty3, ty4, ty9, ty27, ty29, ty33, ty64, ty97, e2, e3, e4, e5, e6, e27, e28, e29, gAb, hcell]
   refine (Rd.read_a hX A' (by omega) (hT.ext hEA) (hP.ext hEA) (hES.ext hEA) (hER.ext hEA) (splitS s)[i] (by omega)).mono ?_
   rintro r D ⟨x, ok, rfl, hED, hor⟩
   have zD := hED.size
   have gD1 := (hED.get A.size (by omega)).trans gA1
   have gD2 := (hED.get (A.size + 1) (by omega)).trans gA2
   have gDu := (hED.get B2.size (by omega)).trans hgu
   rcases hor with ⟨rfl, hrd⟩ | ⟨rfl, hrd⟩
   ·have hxs := (rdS_ok hrd).2.2.1
    simp (maxSteps := 2000000) (disch := first | omega | (simp only [AH.zN, AH.zP] <;> omega) | fail) only [amR Tryd.prog ro X, amS, seval, reduceCtorEq, ty3, ty4, ty9, ty27, ty29, ty33, ty64, ty97, e2, e3, e4, e5, e6, e27, e28, e29, gDu]
    generalize hD1 : AH.put (D.new _) D.size _ = D1
    have zD1 : D1.size = D.size + 1 := by rw [← hD1]; rfl
    have hED1 : Ext D D1 := by rw [← hD1]; exact (by ((repeat' (first | exact Ext.refl _ | assumption | refine Ext.trans ?_ (Ext.new _ _) | refine Ext.put ?_ ?_ _ | refine Ext.trans ?_ (by assumption))) <;> (first | omega | (simp only [AH.zN, AH.zP] <;> omega))))
    clear hD1
    obtain ⟨u', H', hap, hs', hg, hz5, _⟩ := ((hacc.ext hED).ext hED1).lit (P := Tryd.prog) (ro := ro) (t := 27) (n := 1) (vs := [.int .i64 x.1, .string x.2.1, .int .i64 x.2.2]) (xs := [x]) (by omega) (by simp only [ty27]; rfl) rfl (Reps.one (rep_Ins.2 ⟨rfl, rfl, by unfold BIG; omega⟩)) (.inr (by simp)) (by omega) (by omega)
    rw [show Dat.w TIns = 3 from rfl] at hap
    have zH := hg.size
    have oH : ∀ y, y < B.size → H'.get y = D1.get y := fun y hy => hg.get y (by omega) (.inl hy)
    have gHu : H'.get B2.size = .cells [u.v] 1 := (oH _ (by omega)).trans ((hED1.get _ (by omega)).trans gDu)
    rw [zD1] at hap
    simp (maxSteps := 2000000) (disch := first | omega | (simp only [AH.zN, AH.zP] <;> omega) | fail) only [amR Tryd.prog ro X, amS, seval, reduceCtorEq, ty3, ty4, ty9, ty27, ty29, ty33, ty64, ty97, hap, gHu, e2, e3, e4, e5, e6, e27, e28, e29]
    have hfs := filter_succ hli hrd
    refine ⟨N - 1 - (i + 1), by omega, fun y hy => ?_, by have := hg.size; show B.size ≤ H'.size; omega, i + 1, by omega, rfl, by simp, fun j hj hj2 => ?_, u', rfl, ?_, ?_⟩
    ·rw [AH.gPo (by omega), oH y (by omega), hED1.get y (by omega), hED.get y (by omega)]
     exact lo y hy
    ·rcases Nat.lt_or_eq_of_le (Nat.le_of_lt_succ hj) with h3 | h3
     ·exact hall j h3 hj2
     ·subst h3; rw [hrd]; simp
    ·rw [hfs]
     have hs2 : AM.Acc B.size H' u' (((splitS s).take i).filterMap rdS ++ [x]) [] := by simpa using hs'
     refine hs2.frame (Nat.le_refl _) fun y hy hm => ?_
     rcases hm with ⟨_, h1, _⟩ | hm
     ·exact AH.gPo (by omega)
     ·cases hm
    ·rw [hfs, List.length_append, hfl]; rfl
   ·simp (maxSteps := 2000000) (disch := first | omega | (simp only [AH.zN, AH.zP] <;> omega) | fail) only [amR Tryd.prog ro X, amS, seval, reduceCtorEq, ty3, ty4, ty9, ty27, ty29, ty33, ty64, ty97, e2, e3, e4, e5, e6, e27, e28, e29, gD1, gD2]
    exact fin_nil (parse_bad hnb (by omega) (fun j hj => hall j hj (by omega)) hrd) (by ((repeat' (first | exact Ext.refl _ | assumption | refine Ext.trans ?_ (Ext.new _ _) | refine Ext.put ?_ ?_ _ | refine Ext.trans ?_ (by assumption))) <;> (first | omega | (simp only [AH.zN, AH.zP] <;> omega))))
  ·have hil : i = N - 1 := by simp at h; omega
   subst hil
   have hpa := parse_all hnb (fun j hj => hall j (by omega) (by omega))
   have hlast : ((splitS s).map Value.string)[N - 1]? = some (.string (splitS s)[N - 1]) := by rw [List.getElem?_map, List.getElem?_eq_getElem (by omega)]; rfl
   simp only [hN] at hpa
   by_cases hl0 : (splitS s)[N - 1].size = 0
   ·have hle : (splitS s)[N - 1] = ⟨#[]⟩ := ByteArray.ext (Array.eq_empty_of_size_eq_zero hl0)
    rw [if_neg (by rw [hl0]; simp)] at hpa
    rw [hle] at hlast
    by_cases h200 : (200 : Int) < ((N - 1 : Nat) : Int)
    ·rw [if_pos (by omega)] at hpa
     simp (maxSteps := 2000000) (disch := first | omega | (simp only [AH.zN, AH.zP] <;> omega) | fail) only [amR Tryd.prog ro X, amS, seval, reduceCtorEq, ty3, ty4, ty9, ty27, ty29, ty33, ty64, ty97, e2, e3, e4, e5, e6, gAb, hlast, h200, gA1, gA2]
     exact fin_nil hpa (by ((repeat' (first | exact Ext.refl _ | assumption | refine Ext.trans ?_ (Ext.new _ _) | refine Ext.put ?_ ?_ _ | refine Ext.trans ?_ (by assumption))) <;> (first | omega | (simp only [AH.zN, AH.zP] <;> omega))))
    ·rw [if_neg (by omega)] at hpa
     simp (maxSteps := 2000000) (disch := first | omega | (simp only [AH.zN, AH.zP] <;> omega) | fail) only [amR Tryd.prog ro X, amS, seval, reduceCtorEq, ty3, ty4, ty9, ty27, ty29, ty33, ty64, ty97, e2, e3, e4, e5, e6, gAb, hlast, h200, gA1, gA2, hgu]
     obtain ⟨F, hF, hFf⟩ := Acc.fresh (A0 := B) hacc (.nil _ _)
     refine ⟨[u.v], F, by rw [hpa], ?_, ⟨hFf.nodup, fun y hy => by have := hFf.lo y hy; omega, fun y hy => ?_⟩, (by ((repeat' (first | exact Ext.refl _ | assumption | refine Ext.trans ?_ (Ext.new _ _) | refine Ext.put ?_ ?_ _ | refine Ext.trans ?_ (by assumption))) <;> (first | omega | (simp only [AH.zN, AH.zP] <;> omega))))⟩
     ·rw [hpa]
      refine rep_Program.2 ⟨u, F, rfl, rfl, hF.frame fun y hy => ?_⟩
      have h1 := hFf.lo y hy
      have h2 := hFf.hi y hy
      exact ⟨by rw [AH.gPo (by omega), AH.gPo (by omega)], by simp only [AH.zP]; exact h2⟩
     ·have h2 := hFf.hi y hy
      simp only [AH.zP]; exact h2
   ·have hle : ¬ ((splitS s)[N - 1] = ⟨#[]⟩) := fun e => hl0 (by rw [e]; rfl)
    rw [if_pos hl0] at hpa
    simp (maxSteps := 2000000) (disch := first | omega | (simp only [AH.zN, AH.zP] <;> omega) | fail) only [amR Tryd.prog ro X, amS, seval, reduceCtorEq, ty3, ty4, ty9, ty27, ty29, ty33, ty64, ty97, e2, e3, e4, e5, e6, gAb, hlast, hle, gA1, gA2]
    exact fin_nil hpa (by ((repeat' (first | exact Ext.refl _ | assumption | refine Ext.trans ?_ (Ext.new _ _) | refine Ext.put ?_ ?_ _ | refine Ext.trans ?_ (by assumption))) <;> (first | omega | (simp only [AH.zN, AH.zP] <;> omega))))
end Go.Proofs.YtjlbcofopapajaaDoor.Amu.Parse
