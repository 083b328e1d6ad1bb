import Derived.Test.YtjlbcofopapajaaDoorAmuTy
import Derived.Test.YtjlbcofopapajaaDoorAmM
import Derived.Test.YtjlbcofopapajaaDoorAmuStrs
namespace Go.Proofs.YtjlbcofopapajaaDoor.Amu.Law
open Go Go.AM Go.Proofs
set_option linter.all false
open Ty
variable {ro : Nat} {X : FuncId → List Value → AH → ARes → AH → Prop}
set_option maxRecDepth 10000
theorem eq_Ins (A : AH) (hro : ro ≤ A.size) (x y : TIns) (cs ds : List Value) (F F' : List Nat) (h : Dat.rep A x cs F) (h' : Dat.rep A y ds F') (hz : Mk.sz x < 4294967296) :
 ACalls Tryd.prog ro X 121 [.agg cs.toArray, .agg ds.toArray] A (fun r A' => r = .ret (.bool (decide (x = y))) ∧ Ext A A') := by
 obtain ⟨rfl, rfl, z1⟩ := rep_Ins.1 h
 obtain ⟨rfl, rfl, z1'⟩ := rep_Ins.1 h'
 have hsz : Mk.sz x = 0 + (x.2.1.size + (0)) := rfl
 refine ACalls.enterQ (rs := [.tmp 4]) Tryd.func121 rfl (by kernel_rfl) rfl ?_
 simp (maxSteps := 2000000) (disch := first | omega | (simp only [AH.zN, AH.zP] <;> omega) | fail) only [amR Tryd.prog ro X, amS, seval, reduceCtorEq, ty3, ty9, ty97]
 refine CondB.split (fun h => ?_) (fun h => ?_)
 ·have hc : ¬ x.1 = y.1 := by simpa using h
  simp (maxSteps := 2000000) (disch := first | omega | (simp only [AH.zN, AH.zP] <;> omega) | fail) only [amR Tryd.prog ro X, amS, seval, reduceCtorEq, ty3, ty9, ty97]
  exact ⟨by rw [decide_eq_false (fun e => hc (by rw [e]))], by ((repeat' (first | exact Ext.refl _ | assumption | refine Ext.trans ?_ (Ext.new _ _) | refine Ext.put ?_ ?_ _ | refine Ext.trans ?_ (by assumption))) <;> (first | omega | (simp only [AH.zN, AH.zP] <;> omega)))⟩
 have c1 : x.1 = y.1 := by simpa using h
 simp (maxSteps := 2000000) (disch := first | omega | (simp only [AH.zN, AH.zP] <;> omega) | fail) only [amR Tryd.prog ro X, amS, seval, reduceCtorEq, ty3, ty9, ty97]
 refine CondB.split (fun h => ?_) (fun h => ?_)
 ·have hc : ¬ x.2.1 = y.2.1 := by simpa using h
  simp (maxSteps := 2000000) (disch := first | omega | (simp only [AH.zN, AH.zP] <;> omega) | fail) only [amR Tryd.prog ro X, amS, seval, reduceCtorEq, ty3, ty9, ty97]
  exact ⟨by rw [decide_eq_false (fun e => hc (by rw [e]))], by ((repeat' (first | exact Ext.refl _ | assumption | refine Ext.trans ?_ (Ext.new _ _) | refine Ext.put ?_ ?_ _ | refine Ext.trans ?_ (by assumption))) <;> (first | omega | (simp only [AH.zN, AH.zP] <;> omega)))⟩
 have c2 : x.2.1 = y.2.1 := by simpa using h
 simp (maxSteps := 2000000) (disch := first | omega | (simp only [AH.zN, AH.zP] <;> omega) | fail) only [amR Tryd.prog ro X, amS, seval, reduceCtorEq, ty3, ty9, ty97]
 refine CondB.split (fun h => ?_) (fun h => ?_)
 ·have hc : ¬ x.2.2 = y.2.2 := by simpa using h
  simp (maxSteps := 2000000) (disch := first | omega | (simp only [AH.zN, AH.zP] <;> omega) | fail) only [amR Tryd.prog ro X, amS, seval, reduceCtorEq, ty3, ty9, ty97]
  exact ⟨by rw [decide_eq_false (fun e => hc (by rw [e]))], by ((repeat' (first | exact Ext.refl _ | assumption | refine Ext.trans ?_ (Ext.new _ _) | refine Ext.put ?_ ?_ _ | refine Ext.trans ?_ (by assumption))) <;> (first | omega | (simp only [AH.zN, AH.zP] <;> omega)))⟩
 have c3 : x.2.2 = y.2.2 := by simpa using h
 simp (maxSteps := 2000000) (disch := first | omega | (simp only [AH.zN, AH.zP] <;> omega) | fail) only [amR Tryd.prog ro X, amS, seval, reduceCtorEq, ty3, ty9, ty97]
 exact ⟨by rw [decide_eq_true (Prod.ext c1 (Prod.ext c2 (c3)))], by ((repeat' (first | exact Ext.refl _ | assumption | refine Ext.trans ?_ (Ext.new _ _) | refine Ext.put ?_ ?_ _ | refine Ext.trans ?_ (by assumption))) <;> (first | omega | (simp only [AH.zN, AH.zP] <;> omega)))⟩
theorem eqL_Ins (A : AH) (hro : ro ≤ A.size) (s t : Sl) (l k : List TIns) (F G : List Nat) (hs : SlR A s l F) (ht : SlR A t k G) (hz : szL Mk.sz l < 4294967296) :
 ACalls Tryd.prog ro X 55 [s.v, t.v] A (fun r A' => r = .ret (.bool (decide (l = k))) ∧ Ext A A') := by
 have hl := szL_length Mk.sz l
 have hw : Dat.w TIns = 3 := rfl
 refine ACalls.enterQ (rs := [.tmp 4]) Tryd.func55 rfl (by kernel_rfl) rfl ?_
 simp (maxSteps := 2000000) (disch := first | omega | (simp only [AH.zN, AH.zP] <;> omega) | fail) only [amR Tryd.prog ro X, amS, seval, reduceCtorEq, ty3, ty4, ty9, ty27, ty97, hs.len, ht.len]
 refine CondB.split (fun h => ?_) (fun h => ?_)
 ·simp (maxSteps := 2000000) (disch := first | omega | (simp only [AH.zN, AH.zP] <;> omega) | fail) only [amR Tryd.prog ro X, amS, seval, reduceCtorEq, ty3, ty4, ty9, ty27, ty97]
  have : l ≠ k := fun e => by simp [e] at h
  simp [this, Ext.refl]
 ·simp (maxSteps := 2000000) (disch := first | omega | (simp only [AH.zN, AH.zP] <;> omega) | fail) only [amR Tryd.prog ro X, amS, seval, reduceCtorEq, ty3, ty4, ty9, ty27, ty97]
  have hlk : l.length = k.length := by simp at h; omega
  refine Wp.loopC (fun n e A' => Ext A A' ∧ e 0 = s.v ∧ e 1 = t.v ∧ ∃ i : Nat, i ≤ l.length ∧ n = l.length - i ∧ e 5 = .int .i64 i ∧ l.take i = k.take i) (l.length - 0) ?_ ?_
  ·simp (maxSteps := 2000000) (disch := first | omega | (simp only [AH.zN, AH.zP] <;> omega) | fail) only [amV, amH, amQ, amL, amN Tryd.prog, amS, seval, reduceCtorEq, ty3, ty4, ty9, ty27, ty97]
   exact ⟨Ext.refl A, 0, by simp, rfl, rfl, by simp⟩
  ·rintro n e A' ⟨hE, h0, h1, i, hi, rfl, h5, heq⟩
   have v1 := hE.size
   simp (maxSteps := 2000000) (disch := first | omega | (simp only [AH.zN, AH.zP] <;> omega) | fail) only [amR Tryd.prog ro X, amS, seval, reduceCtorEq, ty3, ty4, ty9, ty27, ty97, h0, h1, h5, hs.len]
   refine CondB.split (fun h => ?_) (fun h => ?_)
   ·simp (maxSteps := 2000000) (disch := first | omega | (simp only [AH.zN, AH.zP] <;> omega) | fail) only [amR Tryd.prog ro X, amS, seval, reduceCtorEq, ty3, ty4, ty9, ty27, ty97]
    have hil : i < l.length := by simp at h; omega
    obtain ⟨n1, b1, m1, i1, cs, Fi, c1, q1, _⟩ := (hs.ext hE).row hil
    obtain ⟨n2, b2, m2, i2, ds, Gi, c2, q2, _⟩ := (ht.ext hE).row (i := i) (by omega)
    rw [aRow_eq, hw] at c1 c2
    have hzi := szL_get Mk.sz l i hil
    refine Wp.runG [] (by kernel_rfl) (.inl (by kernel_rfl)) ?_
    simp (maxSteps := 2000000) (disch := first | omega | (simp only [AH.zN, AH.zP] <;> omega) | fail) only [amR Tryd.prog ro X, amS, seval, reduceCtorEq, ty3, ty4, ty9, ty27, ty97, h0, h1, h5, n1, n2, c1, c2]
    refine (eq_Ins _ (by omega) l[i] k[i] cs ds Fi Gi q1 q2 (by omega)).mono ?_
    rintro r A2 ⟨rfl, hE2⟩
    simp (maxSteps := 2000000) (disch := first | omega | (simp only [AH.zN, AH.zP] <;> omega) | fail) only [amR Tryd.prog ro X, amS, seval, reduceCtorEq, ty3, ty4, ty9, ty27, ty97]
    refine CondB.split (fun h => ?_) (fun h => ?_)
    ·simp (maxSteps := 2000000) (disch := first | omega | (simp only [AH.zN, AH.zP] <;> omega) | fail) only [amR Tryd.prog ro X, amS, seval, reduceCtorEq, ty3, ty4, ty9, ty27, ty97]
     have : l ≠ k := by
      intro e
      subst e
      simp at h
     simp [this, hE.trans hE2]
    ·simp (maxSteps := 2000000) (disch := first | omega | (simp only [AH.zN, AH.zP] <;> omega) | fail) only [amR Tryd.prog ro X, amS, seval, reduceCtorEq, ty3, ty4, ty9, ty27, ty97, h0, h1, h5]
     refine ⟨l.length - (i + 1), by omega, hE.trans hE2, i + 1, by omega, rfl, by simp, ?_⟩
     rw [List.take_succ_eq_append_getElem hil, List.take_succ_eq_append_getElem (by omega : i < k.length), heq]
     have : l[i] = k[i] := by simpa using h
     rw [this]
   ·simp (maxSteps := 2000000) (disch := first | omega | (simp only [AH.zN, AH.zP] <;> omega) | fail) only [amR Tryd.prog ro X, amS, seval, reduceCtorEq, ty3, ty4, ty9, ty27, ty97]
    have : l = k := by
     have hi2 : i = l.length := by simp at h; omega
     subst hi2
     rw [List.take_length] at heq
     rw [hlk, List.take_length] at heq
     exact heq
    simp [this, hE]
theorem eq_Program (A : AH) (hro : ro ≤ A.size) (x y : TProgram) (cs ds : List Value) (F F' : List Nat) (h : Dat.rep A x cs F) (h' : Dat.rep A y ds F') (hz : Mk.sz x < 4294967296) :
 ACalls Tryd.prog ro X 15 [.agg cs.toArray, .agg ds.toArray] A (fun r A' => r = .ret (.bool (decide (x = y))) ∧ Ext A A') := by
 obtain ⟨s1, G1, rfl, rfl, h1⟩ := rep_Program.1 h
 obtain ⟨s1', G1', rfl, rfl, h1'⟩ := rep_Program.1 h'
 have hsz : Mk.sz x = szL Mk.sz x := rfl
 refine ACalls.enterQ (rs := [.tmp 4]) Tryd.func15 rfl (by kernel_rfl) rfl ?_
 simp (maxSteps := 2000000) (disch := first | omega | (simp only [AH.zN, AH.zP] <;> omega) | fail) only [amR Tryd.prog ro X, amS, seval, reduceCtorEq, ty4, ty27, ty29, ty97]
 refine (eqL_Ins _ (by first | omega | (simp only [AH.zN, AH.zP] <;> omega)) s1 s1' _ _ _ _ (h1.ext (by ((repeat' (first | exact Ext.refl _ | assumption | refine Ext.trans ?_ (Ext.new _ _) | refine Ext.put ?_ ?_ _ | refine Ext.trans ?_ (by assumption))) <;> (first | omega | (simp only [AH.zN, AH.zP] <;> omega))))) (h1'.ext (by ((repeat' (first | exact Ext.refl _ | assumption | refine Ext.trans ?_ (Ext.new _ _) | refine Ext.put ?_ ?_ _ | refine Ext.trans ?_ (by assumption))) <;> (first | omega | (simp only [AH.zN, AH.zP] <;> omega))))) (by omega)).mono ?_
 rintro r B1 ⟨rfl, hE1⟩
 have v1 := hE1.size
 try simp only [AH.zN, AH.zP] at v1
 simp (maxSteps := 2000000) (disch := first | omega | (simp only [AH.zN, AH.zP] <;> omega) | fail) only [amR Tryd.prog ro X, amS, seval, reduceCtorEq, ty4, ty27, ty29, ty97, hE1.get]
 refine CondB.split (fun h => ?_) (fun h => ?_)
 ·have hc : ¬ x = y := by simpa using h
  simp (maxSteps := 2000000) (disch := first | omega | (simp only [AH.zN, AH.zP] <;> omega) | fail) only [amR Tryd.prog ro X, amS, seval, reduceCtorEq, ty4, ty27, ty29, ty97, hE1.get]
  exact ⟨by rw [decide_eq_false (fun e => hc (by rw [e]))], by ((repeat' (first | exact Ext.refl _ | assumption | refine Ext.trans ?_ (Ext.new _ _) | refine Ext.put ?_ ?_ _ | refine Ext.trans ?_ (by assumption))) <;> (first | omega | (simp only [AH.zN, AH.zP] <;> omega)))⟩
 have c1 : x = y := by simpa using h
 simp (maxSteps := 2000000) (disch := first | omega | (simp only [AH.zN, AH.zP] <;> omega) | fail) only [amR Tryd.prog ro X, amS, seval, reduceCtorEq, ty4, ty27, ty29, ty97, hE1.get]
 exact ⟨by rw [decide_eq_true (c1)], by ((repeat' (first | exact Ext.refl _ | assumption | refine Ext.trans ?_ (Ext.new _ _) | refine Ext.put ?_ ?_ _ | refine Ext.trans ?_ (by assumption))) <;> (first | omega | (simp only [AH.zN, AH.zP] <;> omega)))⟩
theorem eq_Fault (A : AH) (hro : ro ≤ A.size) (x y : TFault) (cs ds : List Value) (F F' : List Nat) (h : Dat.rep A x cs F) (h' : Dat.rep A y ds F') (hz : Mk.sz x < 4294967296) :
 ACalls Tryd.prog ro X 33 [.agg cs.toArray, .agg ds.toArray] A (fun r A' => r = .ret (.bool (decide (x = y))) ∧ Ext A A') := by
 obtain ⟨rfl, rfl, _⟩ := rep_Fault.1 h
 obtain ⟨rfl, rfl, _⟩ := rep_Fault.1 h'
 have hsz : Mk.sz x = 0 + (0) := rfl
 refine ACalls.enterQ (rs := [.tmp 4]) Tryd.func33 rfl (by kernel_rfl) rfl ?_
 simp (maxSteps := 2000000) (disch := first | omega | (simp only [AH.zN, AH.zP] <;> omega) | fail) only [amR Tryd.prog ro X, amS, seval, reduceCtorEq, ty3, ty64]
 refine CondB.split (fun h => ?_) (fun h => ?_)
 ·have hc : ¬ x.1 = y.1 := by simpa using h
  simp (maxSteps := 2000000) (disch := first | omega | (simp only [AH.zN, AH.zP] <;> omega) | fail) only [amR Tryd.prog ro X, amS, seval, reduceCtorEq, ty3, ty64]
  exact ⟨by rw [decide_eq_false (fun e => hc (by rw [e]))], by ((repeat' (first | exact Ext.refl _ | assumption | refine Ext.trans ?_ (Ext.new _ _) | refine Ext.put ?_ ?_ _ | refine Ext.trans ?_ (by assumption))) <;> (first | omega | (simp only [AH.zN, AH.zP] <;> omega)))⟩
 have c1 : x.1 = y.1 := by simpa using h
 simp (maxSteps := 2000000) (disch := first | omega | (simp only [AH.zN, AH.zP] <;> omega) | fail) only [amR Tryd.prog ro X, amS, seval, reduceCtorEq, ty3, ty64]
 refine CondB.split (fun h => ?_) (fun h => ?_)
 ·have hc : ¬ x.2 = y.2 := by simpa using h
  simp (maxSteps := 2000000) (disch := first | omega | (simp only [AH.zN, AH.zP] <;> omega) | fail) only [amR Tryd.prog ro X, amS, seval, reduceCtorEq, ty3, ty64]
  exact ⟨by rw [decide_eq_false (fun e => hc (by rw [e]))], by ((repeat' (first | exact Ext.refl _ | assumption | refine Ext.trans ?_ (Ext.new _ _) | refine Ext.put ?_ ?_ _ | refine Ext.trans ?_ (by assumption))) <;> (first | omega | (simp only [AH.zN, AH.zP] <;> omega)))⟩
 have c2 : x.2 = y.2 := by simpa using h
 simp (maxSteps := 2000000) (disch := first | omega | (simp only [AH.zN, AH.zP] <;> omega) | fail) only [amR Tryd.prog ro X, amS, seval, reduceCtorEq, ty3, ty64]
 exact ⟨by rw [decide_eq_true (Prod.ext c1 (c2))], by ((repeat' (first | exact Ext.refl _ | assumption | refine Ext.trans ?_ (Ext.new _ _) | refine Ext.put ?_ ?_ _ | refine Ext.trans ?_ (by assumption))) <;> (first | omega | (simp only [AH.zN, AH.zP] <;> omega)))⟩
end Go.Proofs.YtjlbcofopapajaaDoor.Amu.Law
