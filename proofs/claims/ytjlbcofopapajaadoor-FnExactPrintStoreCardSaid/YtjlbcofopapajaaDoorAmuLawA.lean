import Derived.Test.YtjlbcofopapajaaDoorAmuTy
import Derived.Test.YtjlbcofopapajaaDoorAmM
import Derived.Test.YtjlbcofopapajaaDoorAmuStrs
namespace Go.Proofs.YtjlbcofopapajaaDoor.Amu.Law
open Go Go.AM Go.Proofs
set_option linter.all false
open Ty
variable {ro : Nat} {X : FuncId → List Value → AH → ARes → AH → Prop}
set_option maxRecDepth 10000
theorem toL_str (A : AH) (hro : ro ≤ A.size) (s : Sl) (l : List ByteArray) (F : List Nat) (hs : SlR A s l F) (hz : szL Mk.sz l < 4294967296) :
 ACalls Tryd.prog ro X 60 [s.v] A (fun r A' => ∃ t G, r = .ret t.v ∧ SlR A' t l G ∧ Fresh A G A' ∧ Ext A A') :=
 Strs.toStringS_a A hro s l F hs (by have := szL_length Mk.sz l; omega)
theorem eqL_str (A : AH) (hro : ro ≤ A.size) (s t : Sl) (l k : List ByteArray) (F G : List Nat) (hs : SlR A s l F) (ht : SlR A t k G) (hz : szL Mk.sz l < 4294967296) :
 ACalls Tryd.prog ro X 67 [s.v, t.v] A (fun r A' => r = .ret (.bool (decide (l = k))) ∧ Ext A A') :=
 (Strs.eqStringS_a A s t l k F G hs ht (by have := szL_length Mk.sz l; omega)).mono fun r A' h => ⟨h.1, by rw [h.2]; exact Ext.refl A⟩
theorem szL_str (A : AH) (hro : ro ≤ A.size) (s : Sl) (l : List ByteArray) (F : List Nat) (hs : SlR A s l F) (hn : Mk.bd l) (left : Int) (hz : 0 ≤ left ∧ left ≤ 2097152) :
 ACalls Tryd.prog ro X 56 [s.v, .int .i64 left] A (fun r A' => r = .ret (.int .i64 (szR left (szL Mk.sz l))) ∧ Ext A A') :=
 (Strs.szStringS_a A s l F hs hn.1 left hz).mono fun r A' h => ⟨h.1, by rw [h.2]; exact Ext.refl A⟩
theorem to_Ins (A : AH) (hro : ro ≤ A.size) (x : TIns) (cs : List Value) (F : List Nat) (h : Dat.rep A x cs F) (hz : Mk.sz x < 4294967296) :
 ACalls Tryd.prog ro X 119 [.agg cs.toArray] A (fun r A' => ∃ cs' F', r = .ret (.agg cs'.toArray) ∧ Dat.rep A' x cs' F' ∧ Fresh A F' A' ∧ Ext A A') := by
 obtain ⟨rfl, rfl, z1⟩ := rep_Ins.1 h
 have y1 := big_lt z1
 have hsz : Mk.sz x = 0 + (x.2.1.size + (0)) := rfl
 refine ACalls.enterQ (rs := [.cell 2 97]) Tryd.func119 rfl (by kernel_rfl) rfl ?_
 simp (maxSteps := 2000000) (disch := first | omega | (simp only [AH.zN, AH.zP] <;> omega) | fail) only [amR Tryd.prog ro X, amS, seval, reduceCtorEq, ty3, ty9, ty97, ty183]
 exact ⟨_, _, rfl, rep_Ins.2 ⟨rfl, rfl, z1⟩, Fresh.nil _ _, by ((repeat' (first | exact Ext.refl _ | assumption | refine Ext.trans ?_ (Ext.new _ _) | refine Ext.put ?_ ?_ _ | refine Ext.trans ?_ (by assumption))) <;> (first | omega | (simp only [AH.zN, AH.zP] <;> omega)))⟩
theorem toL_Ins (A : AH) (hro : ro ≤ A.size) (s : Sl) (l : List TIns) (F : List Nat) (hs : SlR A s l F) (hz : szL Mk.sz l < 4294967296) :
 ACalls Tryd.prog ro X 51 [s.v] A (fun r A' => ∃ t G, r = .ret t.v ∧ SlR A' t l G ∧ Fresh A G A' ∧ Ext A A') := by
 have hl := szL_length Mk.sz l
 refine ACalls.enterQ (rs := [.tmp 2]) Tryd.func51 rfl (by kernel_rfl) rfl ?_
 simp (maxSteps := 2000000) (disch := first | omega | (simp only [AH.zN, AH.zP] <;> omega) | fail) only [amR Tryd.prog ro X, amS, seval, reduceCtorEq, ty3, ty9, ty22, ty27, ty97, ty183, hs.len]
 refine Wp.loopC (fun n e A' => Ext A A' ∧ A.size < A'.size ∧ e 0 = s.v ∧ e 3 = (Sl.mk false A.size 0 l.length l.length).v ∧ ∃ i : Nat, i ≤ l.length ∧ n = l.length - i ∧ e 4 = .int .i64 i ∧ ∃ G, Part A' A.size l.length (l.take i) G ∧ Fresh (A.new .dead) G A') (l.length - 0) ?_ ?_
 ·simp (maxSteps := 2000000) (disch := first | omega | (simp only [AH.zN, AH.zP] <;> omega) | fail) only [amV, amH, amQ, amL, amN Tryd.prog, amS, seval, reduceCtorEq, ty3, ty9, ty22, ty27, ty97, ty183]
  refine ⟨Ext.new A _, by omega, 0, by omega, rfl, rfl, [], ?_, Fresh.nil _ _⟩
  rw [List.take_zero]
  exact Part.start (by simp [AH.zN]) (AH.gNs _ _) (fill_flat _ _ _ rfl)
 ·rintro n e A' ⟨hE, hlt, h0, h3, i, hi, rfl, h4, G, hp, hf⟩
  have hs' := hs.ext hE
  simp (maxSteps := 2000000) (disch := first | omega | (simp only [AH.zN, AH.zP] <;> omega) | fail) only [amR Tryd.prog ro X, amS, seval, reduceCtorEq, ty3, ty9, ty22, ty27, ty97, ty183, h0, h3, h4, hs.len]
  refine CondB.split (fun h => ?_) (fun h => ?_)
  ·have hil : i < l.length := by simp at h; omega
   obtain ⟨n1, b1, m1, i1, cs, Fi, c1, q1, _⟩ := hs'.row hil
   rw [aRow_eq] at c1
   have hw : Dat.w TIns = 3 := rfl
   rw [hw] at c1
   have hzi := szL_get Mk.sz l i hil
   simp (maxSteps := 2000000) (disch := first | omega | (simp only [AH.zN, AH.zP] <;> omega) | fail) only [amR Tryd.prog ro X, amS, seval, reduceCtorEq, ty3, ty9, ty22, ty27, ty97, ty183, h0, h3, h4, n1, c1]
   refine (to_Ins _ (by omega) l[i] cs Fi q1 (by omega)).mono ?_
   rintro r A2 ⟨cs', F', rfl, q2, f2, hE2⟩
   have v2 := hE2.size
   have hp2 := hp.ext hE2
   have hl2 : cs'.length = 3 := Dat.len q2
   obtain ⟨hlt2, ⟨c, g1, g2, g3⟩, hle⟩ := id hp2
   have hwl : (i + 1) * 3 ≤ l.length * 3 := Nat.mul_le_mul_right _ hil
   rw [hw] at g1 g2
   simp (maxSteps := 2000000) (disch := first | omega | (simp only [AH.zN, AH.zP] <;> omega) | fail) only [amR Tryd.prog ro X, amS, seval, reduceCtorEq, ty3, ty9, ty22, ty27, ty97, ty183, h0, h3, h4, g1, hl2]
   refine ⟨l.length - (i + 1), by omega, (hE.trans hE2).put (Nat.le_refl _) _, by omega, i + 1, by omega, rfl, by simp, G ++ F', ?_, (hf.mono (Nat.le_refl _) (Nat.le_refl _)).append (f2.mono (Nat.le_refl _) (Nat.le_refl _)) (by simp [AH.zN]; omega) v2⟩
   have := hp2.store (fun hm => by have := hf.lo _ hm; simp [AH.zN] at this; omega) q2 (fun hm => by have := f2.lo _ hm; omega) (by simp; omega) g1
   rw [List.take_succ_eq_append_getElem hil]
   rw [List.length_take, Nat.min_eq_left hi, hw] at this
   exact this
  ·have hil : i = l.length := by simp at h; omega
   subst hil
   simp (maxSteps := 2000000) (disch := first | omega | (simp only [AH.zN, AH.zP] <;> omega) | fail) only [amR Tryd.prog ro X, amS, seval, reduceCtorEq, ty3, ty9, ty22, ty27, ty97, ty183, h3]
   rw [List.take_length] at hp
   exact ⟨_, _, rfl, hp.done rfl (by unfold BIG; omega), Fresh.cons (Nat.le_refl _) (by simp [AH.zN]) hf (by simp only [AH.zN]; omega) (by simp only [AH.zN]; omega), hE⟩
theorem eq_Ins (A : AH) (hro : ro ≤ A.size) (x y : TIns) (cs ds : List Value) (F F' : List Nat) (h : Dat.rep A x cs F) (h' : Dat.rep A y ds F') (hz : Mk.sz x < 4294967296) :
 ACalls Tryd.prog ro X 121 [.agg cs.toArray, .agg ds.toArray] A (fun r A' => r = .ret (.bool (decide (x = y))) ∧ Ext A A') := by
 obtain ⟨rfl, rfl, z1⟩ := rep_Ins.1 h
 obtain ⟨rfl, rfl, z1'⟩ := rep_Ins.1 h'
 have hsz : Mk.sz x = 0 + (x.2.1.size + (0)) := rfl
 refine ACalls.enterQ (rs := [.tmp 4]) Tryd.func121 rfl (by kernel_rfl) rfl ?_
 simp (maxSteps := 2000000) (disch := first | omega | (simp only [AH.zN, AH.zP] <;> omega) | fail) only [amR Tryd.prog ro X, amS, seval, reduceCtorEq, ty3, ty9, ty97]
 refine CondB.split (fun h => ?_) (fun h => ?_)
 ·have hc : ¬ x.1 = y.1 := by simpa using h
  simp (maxSteps := 2000000) (disch := first | omega | (simp only [AH.zN, AH.zP] <;> omega) | fail) only [amR Tryd.prog ro X, amS, seval, reduceCtorEq, ty3, ty9, ty97]
  exact ⟨by rw [decide_eq_false (fun e => hc (by rw [e]))], by ((repeat' (first | exact Ext.refl _ | assumption | refine Ext.trans ?_ (Ext.new _ _) | refine Ext.put ?_ ?_ _ | refine Ext.trans ?_ (by assumption))) <;> (first | omega | (simp only [AH.zN, AH.zP] <;> omega)))⟩
 have c1 : x.1 = y.1 := by simpa using h
 simp (maxSteps := 2000000) (disch := first | omega | (simp only [AH.zN, AH.zP] <;> omega) | fail) only [amR Tryd.prog ro X, amS, seval, reduceCtorEq, ty3, ty9, ty97]
 refine CondB.split (fun h => ?_) (fun h => ?_)
 ·have hc : ¬ x.2.1 = y.2.1 := by simpa using h
  simp (maxSteps := 2000000) (disch := first | omega | (simp only [AH.zN, AH.zP] <;> omega) | fail) only [amR Tryd.prog ro X, amS, seval, reduceCtorEq, ty3, ty9, ty97]
  exact ⟨by rw [decide_eq_false (fun e => hc (by rw [e]))], by ((repeat' (first | exact Ext.refl _ | assumption | refine Ext.trans ?_ (Ext.new _ _) | refine Ext.put ?_ ?_ _ | refine Ext.trans ?_ (by assumption))) <;> (first | omega | (simp only [AH.zN, AH.zP] <;> omega)))⟩
 have c2 : x.2.1 = y.2.1 := by simpa using h
 simp (maxSteps := 2000000) (disch := first | omega | (simp only [AH.zN, AH.zP] <;> omega) | fail) only [amR Tryd.prog ro X, amS, seval, reduceCtorEq, ty3, ty9, ty97]
 refine CondB.split (fun h => ?_) (fun h => ?_)
 ·have hc : ¬ x.2.2 = y.2.2 := by simpa using h
  simp (maxSteps := 2000000) (disch := first | omega | (simp only [AH.zN, AH.zP] <;> omega) | fail) only [amR Tryd.prog ro X, amS, seval, reduceCtorEq, ty3, ty9, ty97]
  exact ⟨by rw [decide_eq_false (fun e => hc (by rw [e]))], by ((repeat' (first | exact Ext.refl _ | assumption | refine Ext.trans ?_ (Ext.new _ _) | refine Ext.put ?_ ?_ _ | refine Ext.trans ?_ (by assumption))) <;> (first | omega | (simp only [AH.zN, AH.zP] <;> omega)))⟩
 have c3 : x.2.2 = y.2.2 := by simpa using h
 simp (maxSteps := 2000000) (disch := first | omega | (simp only [AH.zN, AH.zP] <;> omega) | fail) only [amR Tryd.prog ro X, amS, seval, reduceCtorEq, ty3, ty9, ty97]
 exact ⟨by rw [decide_eq_true (Prod.ext c1 (Prod.ext c2 (c3)))], by ((repeat' (first | exact Ext.refl _ | assumption | refine Ext.trans ?_ (Ext.new _ _) | refine Ext.put ?_ ?_ _ | refine Ext.trans ?_ (by assumption))) <;> (first | omega | (simp only [AH.zN, AH.zP] <;> omega)))⟩
theorem eqL_Ins (A : AH) (hro : ro ≤ A.size) (s t : Sl) (l k : List TIns) (F G : List Nat) (hs : SlR A s l F) (ht : SlR A t k G) (hz : szL Mk.sz l < 4294967296) :
 ACalls Tryd.prog ro X 55 [s.v, t.v] A (fun r A' => r = .ret (.bool (decide (l = k))) ∧ Ext A A') := by
 have hl := szL_length Mk.sz l
 have hw : Dat.w TIns = 3 := rfl
 refine ACalls.enterQ (rs := [.tmp 4]) Tryd.func55 rfl (by kernel_rfl) rfl ?_
 simp (maxSteps := 2000000) (disch := first | omega | (simp only [AH.zN, AH.zP] <;> omega) | fail) only [amR Tryd.prog ro X, amS, seval, reduceCtorEq, ty3, ty4, ty9, ty27, ty97, hs.len, ht.len]
 refine CondB.split (fun h => ?_) (fun h => ?_)
 ·simp (maxSteps := 2000000) (disch := first | omega | (simp only [AH.zN, AH.zP] <;> omega) | fail) only [amR Tryd.prog ro X, amS, seval, reduceCtorEq, ty3, ty4, ty9, ty27, ty97]
  have : l ≠ k := fun e => by simp [e] at h
  simp [this, Ext.refl]
 ·simp (maxSteps := 2000000) (disch := first | omega | (simp only [AH.zN, AH.zP] <;> omega) | fail) only [amR Tryd.prog ro X, amS, seval, reduceCtorEq, ty3, ty4, ty9, ty27, ty97]
  have hlk : l.length = k.length := by simp at h; omega
  refine Wp.loopC (fun n e A' => Ext A A' ∧ e 0 = s.v ∧ e 1 = t.v ∧ ∃ i : Nat, i ≤ l.length ∧ n = l.length - i ∧ e 5 = .int .i64 i ∧ l.take i = k.take i) (l.length - 0) ?_ ?_
  ·simp (maxSteps := 2000000) (disch := first | omega | (simp only [AH.zN, AH.zP] <;> omega) | fail) only [amV, amH, amQ, amL, amN Tryd.prog, amS, seval, reduceCtorEq, ty3, ty4, ty9, ty27, ty97]
   exact ⟨Ext.refl A, 0, by simp, rfl, rfl, by simp⟩
  ·rintro n e A' ⟨hE, h0, h1, i, hi, rfl, h5, heq⟩
   have v1 := hE.size
   simp (maxSteps := 2000000) (disch := first | omega | (simp only [AH.zN, AH.zP] <;> omega) | fail) only [amR Tryd.prog ro X, amS, seval, reduceCtorEq, ty3, ty4, ty9, ty27, ty97, h0, h1, h5, hs.len]
   refine CondB.split (fun h => ?_) (fun h => ?_)
   ·simp (maxSteps := 2000000) (disch := first | omega | (simp only [AH.zN, AH.zP] <;> omega) | fail) only [amR Tryd.prog ro X, amS, seval, reduceCtorEq, ty3, ty4, ty9, ty27, ty97]
    have hil : i < l.length := by simp at h; omega
    obtain ⟨n1, b1, m1, i1, cs, Fi, c1, q1, _⟩ := (hs.ext hE).row hil
    obtain ⟨n2, b2, m2, i2, ds, Gi, c2, q2, _⟩ := (ht.ext hE).row (i := i) (by omega)
    rw [aRow_eq, hw] at c1 c2
    have hzi := szL_get Mk.sz l i hil
    refine Wp.runG [] (by kernel_rfl) (.inl (by kernel_rfl)) ?_
    simp (maxSteps := 2000000) (disch := first | omega | (simp only [AH.zN, AH.zP] <;> omega) | fail) only [amR Tryd.prog ro X, amS, seval, reduceCtorEq, ty3, ty4, ty9, ty27, ty97, h0, h1, h5, n1, n2, c1, c2]
    refine (eq_Ins _ (by omega) l[i] k[i] cs ds Fi Gi q1 q2 (by omega)).mono ?_
    rintro r A2 ⟨rfl, hE2⟩
    simp (maxSteps := 2000000) (disch := first | omega | (simp only [AH.zN, AH.zP] <;> omega) | fail) only [amR Tryd.prog ro X, amS, seval, reduceCtorEq, ty3, ty4, ty9, ty27, ty97]
    refine CondB.split (fun h => ?_) (fun h => ?_)
    ·simp (maxSteps := 2000000) (disch := first | omega | (simp only [AH.zN, AH.zP] <;> omega) | fail) only [amR Tryd.prog ro X, amS, seval, reduceCtorEq, ty3, ty4, ty9, ty27, ty97]
     have : l ≠ k := by
      intro e
      subst e
      simp at h
     simp [this, hE.trans hE2]
    ·simp (maxSteps := 2000000) (disch := first | omega | (simp only [AH.zN, AH.zP] <;> omega) | fail) only [amR Tryd.prog ro X, amS, seval, reduceCtorEq, ty3, ty4, ty9, ty27, ty97, h0, h1, h5]
     refine ⟨l.length - (i + 1), by omega, hE.trans hE2, i + 1, by omega, rfl, by simp, ?_⟩
     rw [List.take_succ_eq_append_getElem hil, List.take_succ_eq_append_getElem (by omega : i < k.length), heq]
     have : l[i] = k[i] := by simpa using h
     rw [this]
   ·simp (maxSteps := 2000000) (disch := first | omega | (simp only [AH.zN, AH.zP] <;> omega) | fail) only [amR Tryd.prog ro X, amS, seval, reduceCtorEq, ty3, ty4, ty9, ty27, ty97]
    have : l = k := by
     have hi2 : i = l.length := by simp at h; omega
     subst hi2
     rw [List.take_length] at heq
     rw [hlk, List.take_length] at heq
     exact heq
    simp [this, hE]
theorem sz_Ins (A : AH) (hro : ro ≤ A.size) (x : TIns) (cs : List Value) (F : List Nat) (h : Dat.rep A x cs F) (hn : Mk.bd x) (left : Int) (hz : 0 ≤ left ∧ left ≤ 2097152) :
 ACalls Tryd.prog ro X 115 [.agg cs.toArray, .int .i64 left] A (fun r A' => r = .ret (.int .i64 (szR left (Mk.sz x))) ∧ Ext A A') := by
 obtain ⟨rfl, rfl, z1⟩ := rep_Ins.1 h
 have y1 := big_lt z1
 have hsz : Mk.sz x = 0 + (x.2.1.size + (0)) := rfl
 refine ACalls.enterQ (rs := [.tmp 4]) Tryd.func115 rfl (by kernel_rfl) rfl ?_
 simp (maxSteps := 2000000) (disch := first | omega | (simp only [AH.zN, AH.zP] <;> omega) | fail) only [amR Tryd.prog ro X, amS, seval, reduceCtorEq, ty3, ty9, ty183]
 refine CondB.split (fun h => ?_) (fun h => ?_)
 ·have hc : left - (x.2.1.size : Nat) < 0 := by simpa using h
  simp (maxSteps := 2000000) (disch := first | omega | (simp only [AH.zN, AH.zP] <;> omega) | fail) only [amR Tryd.prog ro X, amS, seval, reduceCtorEq, ty3, ty9, ty183]
  exact ⟨(by rw [szR_neg (by omega : left - (Mk.sz x : Nat) < 0)]), by ((repeat' (first | exact Ext.refl _ | assumption | refine Ext.trans ?_ (Ext.new _ _) | refine Ext.put ?_ ?_ _ | refine Ext.trans ?_ (by assumption))) <;> (first | omega | (simp only [AH.zN, AH.zP] <;> omega)))⟩
 have c1 : ¬ (left - (x.2.1.size : Nat) < 0) := by simpa using h
 simp (maxSteps := 2000000) (disch := first | omega | (simp only [AH.zN, AH.zP] <;> omega) | fail) only [amR Tryd.prog ro X, amS, seval, reduceCtorEq, ty3, ty9, ty183]
 exact ⟨by rw [szR_pos (by omega : ¬ left - (Mk.sz x : Nat) < 0)]; congr 2 <;> omega, by ((repeat' (first | exact Ext.refl _ | assumption | refine Ext.trans ?_ (Ext.new _ _) | refine Ext.put ?_ ?_ _ | refine Ext.trans ?_ (by assumption))) <;> (first | omega | (simp only [AH.zN, AH.zP] <;> omega)))⟩
theorem szL_Ins (A : AH) (hro : ro ≤ A.size) (s : Sl) (l : List TIns) (F : List Nat) (hs : SlR A s l F) (hn : Mk.bd l) (left : Int) (hz : 0 ≤ left ∧ left ≤ 2097152) :
 ACalls Tryd.prog ro X 49 [s.v, .int .i64 left] A (fun r A' => r = .ret (.int .i64 (szR left (szL Mk.sz l))) ∧ Ext A A') := by
 have hl := hn.1
 have hw : Dat.w TIns = 3 := rfl
 refine ACalls.enterQ (rs := [.tmp 4]) Tryd.func49 rfl (by kernel_rfl) rfl ?_
 simp (maxSteps := 2000000) (disch := first | omega | (simp only [AH.zN, AH.zP] <;> omega) | fail) only [amR Tryd.prog ro X, amS, seval, reduceCtorEq, ty3, ty9, ty22, ty183, hs.len]
 refine CondB.split (fun h => ?_) (fun h => ?_)
 ·simp (maxSteps := 2000000) (disch := first | omega | (simp only [AH.zN, AH.zP] <;> omega) | fail) only [amR Tryd.prog ro X, amS, seval, reduceCtorEq, ty3, ty9, ty22, ty183]
  have h2 : left - l.length < 0 := by simpa using h
  have := szL_length Mk.sz l
  exact ⟨by rw [szR_neg (by omega)], Ext.refl A⟩
 ·simp (maxSteps := 2000000) (disch := first | omega | (simp only [AH.zN, AH.zP] <;> omega) | fail) only [amR Tryd.prog ro X, amS, seval, reduceCtorEq, ty3, ty9, ty22, ty183]
  refine Wp.loopC (fun n e A' => Ext A A' ∧ e 0 = s.v ∧ ∃ i : Nat, i ≤ l.length ∧ n = l.length - i ∧ e 5 = .int .i64 i ∧ e 1 = .int .i64 (left - szL Mk.sz (l.take i) + i - l.length) ∧ 0 ≤ left - szL Mk.sz (l.take i) + i - l.length) (l.length - 0) ?_ ?_
  ·simp (maxSteps := 2000000) (disch := first | omega | (simp only [AH.zN, AH.zP] <;> omega) | fail) only [amV, amH, amQ, amL, amN Tryd.prog, amS, seval, reduceCtorEq, ty3, ty9, ty22, ty183]
   refine ⟨Ext.refl A, 0, by omega, rfl, rfl, ?_⟩
   have : 0 ≤ left - l.length := by simpa using h
   simp only [List.take_zero, szL_nil]
   exact ⟨by congr 1 <;> omega, by omega⟩
  ·rintro n e A' ⟨hE, h0, i, hi, rfl, h5, h1, hle⟩
   have v1 := hE.size
   simp (maxSteps := 2000000) (disch := first | omega | (simp only [AH.zN, AH.zP] <;> omega) | fail) only [amR Tryd.prog ro X, amS, seval, reduceCtorEq, ty3, ty9, ty22, ty183, h0, h5, hs.len]
   refine CondB.split (fun h => ?_) (fun h => ?_)
   ·have hil : i < l.length := by simp at h; omega
    obtain ⟨n1, b1, m1, i1, cs, Fi, c1, q1, _⟩ := (hs.ext hE).row hil
    rw [aRow_eq, hw] at c1
    have hst := szL_take_succ Mk.sz l i hil
    have hge := szL_take_le Mk.sz l (i + 1)
    have hge0 := szL_take_le Mk.sz l i
    have hti := szL_length Mk.sz (l.take i)
    rw [List.length_take, Nat.min_eq_left hi] at hti
    simp (maxSteps := 2000000) (disch := first | omega | (simp only [AH.zN, AH.zP] <;> omega) | fail) only [amR Tryd.prog ro X, amS, seval, reduceCtorEq, ty3, ty9, ty22, ty183, h0, h1, h5, n1, c1]
    refine (sz_Ins _ (by omega) l[i] cs Fi q1 (hn.2 _ (List.getElem_mem hil)) _ ⟨hle, by omega⟩).mono ?_
    rintro r A2 ⟨rfl, hE2⟩
    by_cases hc : left - szL Mk.sz (l.take i) + i - l.length - (Mk.sz l[i] : Nat) < 0
    ·rw [szR_neg hc]
     simp (maxSteps := 2000000) (disch := first | omega | (simp only [AH.zN, AH.zP] <;> omega) | fail) only [amR Tryd.prog ro X, amS, seval, reduceCtorEq, ty3, ty9, ty22, ty183]
     exact ⟨by rw [szR_neg (by omega)], hE.trans hE2⟩
    ·rw [szR_pos hc]
     simp (maxSteps := 2000000) (disch := first | omega | (simp only [AH.zN, AH.zP] <;> omega) | fail) only [amR Tryd.prog ro X, amS, seval, reduceCtorEq, ty3, ty9, ty22, ty183, h0, h5, hc]
     exact ⟨l.length - (i + 1), by omega, hE.trans hE2, i + 1, by omega, rfl, rfl, by congr 1 <;> omega, by omega⟩
   ·have hil : i = l.length := by simp at h; omega
    subst hil
    rw [List.take_length] at h1 hle
    simp (maxSteps := 2000000) (disch := first | omega | (simp only [AH.zN, AH.zP] <;> omega) | fail) only [amR Tryd.prog ro X, amS, seval, reduceCtorEq, ty3, ty9, ty22, ty183, h1]
    exact ⟨by rw [szR_pos (by omega)]; congr 2; omega, hE⟩
theorem to_Program (A : AH) (hro : ro ≤ A.size) (x : TProgram) (cs : List Value) (F : List Nat) (h : Dat.rep A x cs F) (hz : Mk.sz x < 4294967296) :
 ACalls Tryd.prog ro X 13 [.agg cs.toArray] A (fun r A' => ∃ cs' F', r = .ret (.agg cs'.toArray) ∧ Dat.rep A' x cs' F' ∧ Fresh A F' A' ∧ Ext A A') := by
 obtain ⟨s1, G1, rfl, rfl, h1⟩ := rep_Program.1 h
 have hsz : Mk.sz x = szL Mk.sz x := rfl
 refine ACalls.enterQ (rs := [.cell 2 29]) Tryd.func13 rfl (by kernel_rfl) rfl ?_
 simp (maxSteps := 2000000) (disch := first | omega | (simp only [AH.zN, AH.zP] <;> omega) | fail) only [amR Tryd.prog ro X, amS, seval, reduceCtorEq, ty22, ty24, ty27, ty29, ty97, ty183]
 refine (toL_Ins _ (by first | omega | (simp only [AH.zN, AH.zP] <;> omega)) s1 _ _ (h1.ext (by ((repeat' (first | exact Ext.refl _ | assumption | refine Ext.trans ?_ (Ext.new _ _) | refine Ext.put ?_ ?_ _ | refine Ext.trans ?_ (by assumption))) <;> (first | omega | (simp only [AH.zN, AH.zP] <;> omega))))) (by omega)).mono ?_
 rintro r B1 ⟨t1, H1, rfl, q1, f1, hE1⟩
 have v1 := hE1.size
 try simp only [AH.zN, AH.zP] at v1
 simp (maxSteps := 2000000) (disch := first | omega | (simp only [AH.zN, AH.zP] <;> omega) | fail) only [amR Tryd.prog ro X, amS, seval, reduceCtorEq, ty22, ty24, ty27, ty29, ty97, ty183, hE1.get]
 exact ⟨_, _, rfl, rep_Program.2 ⟨t1, _, rfl, rfl, q1.low f1.lo (by ((repeat' (first | exact Low.refl _ _ | assumption | refine Low.new ?_ _ | refine Low.put ?_ ?_ _ | refine Low.trans ?_ (Ext.low (by assumption) _))) <;> (first | omega | (simp only [AH.zN, AH.zP] <;> omega))))⟩, f1.mono (by first | omega | (simp only [AH.zN, AH.zP] <;> omega)) (by first | omega | (simp only [AH.zN, AH.zP] <;> omega)), by ((repeat' (first | exact Ext.refl _ | assumption | refine Ext.trans ?_ (Ext.new _ _) | refine Ext.put ?_ ?_ _ | refine Ext.trans ?_ (by assumption))) <;> (first | omega | (simp only [AH.zN, AH.zP] <;> omega)))⟩
theorem eq_Program (A : AH) (hro : ro ≤ A.size) (x y : TProgram) (cs ds : List Value) (F F' : List Nat) (h : Dat.rep A x cs F) (h' : Dat.rep A y ds F') (hz : Mk.sz x < 4294967296) :
 ACalls Tryd.prog ro X 15 [.agg cs.toArray, .agg ds.toArray] A (fun r A' => r = .ret (.bool (decide (x = y))) ∧ Ext A A') := by
 obtain ⟨s1, G1, rfl, rfl, h1⟩ := rep_Program.1 h
 obtain ⟨s1', G1', rfl, rfl, h1'⟩ := rep_Program.1 h'
 have hsz : Mk.sz x = szL Mk.sz x := rfl
 refine ACalls.enterQ (rs := [.tmp 4]) Tryd.func15 rfl (by kernel_rfl) rfl ?_
 simp (maxSteps := 2000000) (disch := first | omega | (simp only [AH.zN, AH.zP] <;> omega) | fail) only [amR Tryd.prog ro X, amS, seval, reduceCtorEq, ty4, ty27, ty29, ty97]
 refine (eqL_Ins _ (by first | omega | (simp only [AH.zN, AH.zP] <;> omega)) s1 s1' _ _ _ _ (h1.ext (by ((repeat' (first | exact Ext.refl _ | assumption | refine Ext.trans ?_ (Ext.new _ _) | refine Ext.put ?_ ?_ _ | refine Ext.trans ?_ (by assumption))) <;> (first | omega | (simp only [AH.zN, AH.zP] <;> omega))))) (h1'.ext (by ((repeat' (first | exact Ext.refl _ | assumption | refine Ext.trans ?_ (Ext.new _ _) | refine Ext.put ?_ ?_ _ | refine Ext.trans ?_ (by assumption))) <;> (first | omega | (simp only [AH.zN, AH.zP] <;> omega))))) (by omega)).mono ?_
 rintro r B1 ⟨rfl, hE1⟩
 have v1 := hE1.size
 try simp only [AH.zN, AH.zP] at v1
 simp (maxSteps := 2000000) (disch := first | omega | (simp only [AH.zN, AH.zP] <;> omega) | fail) only [amR Tryd.prog ro X, amS, seval, reduceCtorEq, ty4, ty27, ty29, ty97, hE1.get]
 refine CondB.split (fun h => ?_) (fun h => ?_)
 ·have hc : ¬ x = y := by simpa using h
  simp (maxSteps := 2000000) (disch := first | omega | (simp only [AH.zN, AH.zP] <;> omega) | fail) only [amR Tryd.prog ro X, amS, seval, reduceCtorEq, ty4, ty27, ty29, ty97, hE1.get]
  exact ⟨by rw [decide_eq_false (fun e => hc (by rw [e]))], by ((repeat' (first | exact Ext.refl _ | assumption | refine Ext.trans ?_ (Ext.new _ _) | refine Ext.put ?_ ?_ _ | refine Ext.trans ?_ (by assumption))) <;> (first | omega | (simp only [AH.zN, AH.zP] <;> omega)))⟩
 have c1 : x = y := by simpa using h
 simp (maxSteps := 2000000) (disch := first | omega | (simp only [AH.zN, AH.zP] <;> omega) | fail) only [amR Tryd.prog ro X, amS, seval, reduceCtorEq, ty4, ty27, ty29, ty97, hE1.get]
 exact ⟨by rw [decide_eq_true (c1)], by ((repeat' (first | exact Ext.refl _ | assumption | refine Ext.trans ?_ (Ext.new _ _) | refine Ext.put ?_ ?_ _ | refine Ext.trans ?_ (by assumption))) <;> (first | omega | (simp only [AH.zN, AH.zP] <;> omega)))⟩
theorem sz_Program (A : AH) (hro : ro ≤ A.size) (x : TProgram) (cs : List Value) (F : List Nat) (h : Dat.rep A x cs F) (hn : Mk.bd x) (left : Int) (hz : 0 ≤ left ∧ left ≤ 2097152) :
 ACalls Tryd.prog ro X 11 [.agg cs.toArray, .int .i64 left] A (fun r A' => r = .ret (.int .i64 (szR left (Mk.sz x))) ∧ Ext A A') := by
 obtain ⟨s1, G1, rfl, rfl, h1⟩ := rep_Program.1 h
 have hsz : Mk.sz x = szL Mk.sz x := rfl
 refine ACalls.enterQ (rs := [.tmp 4]) Tryd.func11 rfl (by kernel_rfl) rfl ?_
 simp (maxSteps := 2000000) (disch := first | omega | (simp only [AH.zN, AH.zP] <;> omega) | fail) only [amR Tryd.prog ro X, amS, seval, reduceCtorEq, ty3, ty22, ty24, ty183]
 refine (szL_Ins _ (by first | omega | (simp only [AH.zN, AH.zP] <;> omega)) s1 _ _ (h1.ext (by ((repeat' (first | exact Ext.refl _ | assumption | refine Ext.trans ?_ (Ext.new _ _) | refine Ext.put ?_ ?_ _ | refine Ext.trans ?_ (by assumption))) <;> (first | omega | (simp only [AH.zN, AH.zP] <;> omega))))) hn (left) (by omega)).mono ?_
 rintro r B1 ⟨rfl, hE1⟩
 have v1 := hE1.size
 try simp only [AH.zN, AH.zP] at v1
 by_cases c1 : left - (szL Mk.sz x : Nat) < 0
 ·rw [szR_neg c1]
  simp (maxSteps := 2000000) (disch := first | omega | (simp only [AH.zN, AH.zP] <;> omega) | fail) only [amR Tryd.prog ro X, amS, seval, reduceCtorEq, ty3, ty22, ty24, ty183, hE1.get]
  exact ⟨(by rw [szR_neg (by omega : left - (Mk.sz x : Nat) < 0)]), by ((repeat' (first | exact Ext.refl _ | assumption | refine Ext.trans ?_ (Ext.new _ _) | refine Ext.put ?_ ?_ _ | refine Ext.trans ?_ (by assumption))) <;> (first | omega | (simp only [AH.zN, AH.zP] <;> omega)))⟩
 rw [szR_pos c1]
 simp (maxSteps := 2000000) (disch := first | omega | (simp only [AH.zN, AH.zP] <;> omega) | fail) only [amR Tryd.prog ro X, amS, seval, reduceCtorEq, ty3, ty22, ty24, ty183, hE1.get, c1]
 exact ⟨by rw [szR_pos (by omega : ¬ left - (Mk.sz x : Nat) < 0)]; congr 2 <;> omega, by ((repeat' (first | exact Ext.refl _ | assumption | refine Ext.trans ?_ (Ext.new _ _) | refine Ext.put ?_ ?_ _ | refine Ext.trans ?_ (by assumption))) <;> (first | omega | (simp only [AH.zN, AH.zP] <;> omega)))⟩
theorem to_Glance (A : AH) (hro : ro ≤ A.size) (x : TGlance) (cs : List Value) (F : List Nat) (h : Dat.rep A x cs F) (hz : Mk.sz x < 4294967296) :
 ACalls Tryd.prog ro X 219 [.agg cs.toArray] A (fun r A' => ∃ cs' F', r = .ret (.agg cs'.toArray) ∧ Dat.rep A' x cs' F' ∧ Fresh A F' A' ∧ Ext A A') := by
 obtain ⟨rfl, rfl, z1, z2⟩ := rep_Glance.1 h
 have y1 := big_lt z1
 have y2 := big_lt z2
 have hsz : Mk.sz x = x.1.size + (0 + (x.2.2.size)) := rfl
 refine ACalls.enterQ (rs := [.cell 2 120]) Tryd.func219 rfl (by kernel_rfl) rfl ?_
 simp (maxSteps := 2000000) (disch := first | omega | (simp only [AH.zN, AH.zP] <;> omega) | fail) only [amR Tryd.prog ro X, amS, seval, reduceCtorEq, ty4, ty9, ty120, ty282]
 exact ⟨_, _, rfl, rep_Glance.2 ⟨rfl, rfl, z1, z2⟩, Fresh.nil _ _, by ((repeat' (first | exact Ext.refl _ | assumption | refine Ext.trans ?_ (Ext.new _ _) | refine Ext.put ?_ ?_ _ | refine Ext.trans ?_ (by assumption))) <;> (first | omega | (simp only [AH.zN, AH.zP] <;> omega)))⟩
theorem toL_Glance (A : AH) (hro : ro ≤ A.size) (s : Sl) (l : List TGlance) (F : List Nat) (hs : SlR A s l F) (hz : szL Mk.sz l < 4294967296) :
 ACalls Tryd.prog ro X 179 [s.v] A (fun r A' => ∃ t G, r = .ret t.v ∧ SlR A' t l G ∧ Fresh A G A' ∧ Ext A A') := by
 have hl := szL_length Mk.sz l
 refine ACalls.enterQ (rs := [.tmp 2]) Tryd.func179 rfl (by kernel_rfl) rfl ?_
 simp (maxSteps := 2000000) (disch := first | omega | (simp only [AH.zN, AH.zP] <;> omega) | fail) only [amR Tryd.prog ro X, amS, seval, reduceCtorEq, ty3, ty4, ty9, ty116, ty120, ty193, ty282, hs.len]
 refine Wp.loopC (fun n e A' => Ext A A' ∧ A.size < A'.size ∧ e 0 = s.v ∧ e 3 = (Sl.mk false A.size 0 l.length l.length).v ∧ ∃ i : Nat, i ≤ l.length ∧ n = l.length - i ∧ e 4 = .int .i64 i ∧ ∃ G, Part A' A.size l.length (l.take i) G ∧ Fresh (A.new .dead) G A') (l.length - 0) ?_ ?_
 ·simp (maxSteps := 2000000) (disch := first | omega | (simp only [AH.zN, AH.zP] <;> omega) | fail) only [amV, amH, amQ, amL, amN Tryd.prog, amS, seval, reduceCtorEq, ty3, ty4, ty9, ty116, ty120, ty193, ty282]
  refine ⟨Ext.new A _, by omega, 0, by omega, rfl, rfl, [], ?_, Fresh.nil _ _⟩
  rw [List.take_zero]
  exact Part.start (by simp [AH.zN]) (AH.gNs _ _) (fill_flat _ _ _ rfl)
 ·rintro n e A' ⟨hE, hlt, h0, h3, i, hi, rfl, h4, G, hp, hf⟩
  have hs' := hs.ext hE
  simp (maxSteps := 2000000) (disch := first | omega | (simp only [AH.zN, AH.zP] <;> omega) | fail) only [amR Tryd.prog ro X, amS, seval, reduceCtorEq, ty3, ty4, ty9, ty116, ty120, ty193, ty282, h0, h3, h4, hs.len]
  refine CondB.split (fun h => ?_) (fun h => ?_)
  ·have hil : i < l.length := by simp at h; omega
   obtain ⟨n1, b1, m1, i1, cs, Fi, c1, q1, _⟩ := hs'.row hil
   rw [aRow_eq] at c1
   have hw : Dat.w TGlance = 3 := rfl
   rw [hw] at c1
   have hzi := szL_get Mk.sz l i hil
   simp (maxSteps := 2000000) (disch := first | omega | (simp only [AH.zN, AH.zP] <;> omega) | fail) only [amR Tryd.prog ro X, amS, seval, reduceCtorEq, ty3, ty4, ty9, ty116, ty120, ty193, ty282, h0, h3, h4, n1, c1]
   refine (to_Glance _ (by omega) l[i] cs Fi q1 (by omega)).mono ?_
   rintro r A2 ⟨cs', F', rfl, q2, f2, hE2⟩
   have v2 := hE2.size
   have hp2 := hp.ext hE2
   have hl2 : cs'.length = 3 := Dat.len q2
   obtain ⟨hlt2, ⟨c, g1, g2, g3⟩, hle⟩ := id hp2
   have hwl : (i + 1) * 3 ≤ l.length * 3 := Nat.mul_le_mul_right _ hil
   rw [hw] at g1 g2
   simp (maxSteps := 2000000) (disch := first | omega | (simp only [AH.zN, AH.zP] <;> omega) | fail) only [amR Tryd.prog ro X, amS, seval, reduceCtorEq, ty3, ty4, ty9, ty116, ty120, ty193, ty282, h0, h3, h4, g1, hl2]
   refine ⟨l.length - (i + 1), by omega, (hE.trans hE2).put (Nat.le_refl _) _, by omega, i + 1, by omega, rfl, by simp, G ++ F', ?_, (hf.mono (Nat.le_refl _) (Nat.le_refl _)).append (f2.mono (Nat.le_refl _) (Nat.le_refl _)) (by simp [AH.zN]; omega) v2⟩
   have := hp2.store (fun hm => by have := hf.lo _ hm; simp [AH.zN] at this; omega) q2 (fun hm => by have := f2.lo _ hm; omega) (by simp; omega) g1
   rw [List.take_succ_eq_append_getElem hil]
   rw [List.length_take, Nat.min_eq_left hi, hw] at this
   exact this
  ·have hil : i = l.length := by simp at h; omega
   subst hil
   simp (maxSteps := 2000000) (disch := first | omega | (simp only [AH.zN, AH.zP] <;> omega) | fail) only [amR Tryd.prog ro X, amS, seval, reduceCtorEq, ty3, ty4, ty9, ty116, ty120, ty193, ty282, h3]
   rw [List.take_length] at hp
   exact ⟨_, _, rfl, hp.done rfl (by unfold BIG; omega), Fresh.cons (Nat.le_refl _) (by simp [AH.zN]) hf (by simp only [AH.zN]; omega) (by simp only [AH.zN]; omega), hE⟩
theorem eq_Glance (A : AH) (hro : ro ≤ A.size) (x y : TGlance) (cs ds : List Value) (F F' : List Nat) (h : Dat.rep A x cs F) (h' : Dat.rep A y ds F') (hz : Mk.sz x < 4294967296) :
 ACalls Tryd.prog ro X 224 [.agg cs.toArray, .agg ds.toArray] A (fun r A' => r = .ret (.bool (decide (x = y))) ∧ Ext A A') := by
 obtain ⟨rfl, rfl, z1, z2⟩ := rep_Glance.1 h
 obtain ⟨rfl, rfl, z1', z2'⟩ := rep_Glance.1 h'
 have hsz : Mk.sz x = x.1.size + (0 + (x.2.2.size)) := rfl
 refine ACalls.enterQ (rs := [.tmp 4]) Tryd.func224 rfl (by kernel_rfl) rfl ?_
 simp (maxSteps := 2000000) (disch := first | omega | (simp only [AH.zN, AH.zP] <;> omega) | fail) only [amR Tryd.prog ro X, amS, seval, reduceCtorEq, ty4, ty9, ty120]
 refine CondB.split (fun h => ?_) (fun h => ?_)
 ·have hc : ¬ x.1 = y.1 := by simpa using h
  simp (maxSteps := 2000000) (disch := first | omega | (simp only [AH.zN, AH.zP] <;> omega) | fail) only [amR Tryd.prog ro X, amS, seval, reduceCtorEq, ty4, ty9, ty120]
  exact ⟨by rw [decide_eq_false (fun e => hc (by rw [e]))], by ((repeat' (first | exact Ext.refl _ | assumption | refine Ext.trans ?_ (Ext.new _ _) | refine Ext.put ?_ ?_ _ | refine Ext.trans ?_ (by assumption))) <;> (first | omega | (simp only [AH.zN, AH.zP] <;> omega)))⟩
 have c1 : x.1 = y.1 := by simpa using h
 simp (maxSteps := 2000000) (disch := first | omega | (simp only [AH.zN, AH.zP] <;> omega) | fail) only [amR Tryd.prog ro X, amS, seval, reduceCtorEq, ty4, ty9, ty120]
 refine CondB.split (fun h => ?_) (fun h => ?_)
 ·have hc : ¬ x.2.1 = y.2.1 := by simpa using h
  simp (maxSteps := 2000000) (disch := first | omega | (simp only [AH.zN, AH.zP] <;> omega) | fail) only [amR Tryd.prog ro X, amS, seval, reduceCtorEq, ty4, ty9, ty120]
  exact ⟨by rw [decide_eq_false (fun e => hc (by rw [e]))], by ((repeat' (first | exact Ext.refl _ | assumption | refine Ext.trans ?_ (Ext.new _ _) | refine Ext.put ?_ ?_ _ | refine Ext.trans ?_ (by assumption))) <;> (first | omega | (simp only [AH.zN, AH.zP] <;> omega)))⟩
 have c2 : x.2.1 = y.2.1 := by simpa using h
 simp (maxSteps := 2000000) (disch := first | omega | (simp only [AH.zN, AH.zP] <;> omega) | fail) only [amR Tryd.prog ro X, amS, seval, reduceCtorEq, ty4, ty9, ty120]
 refine CondB.split (fun h => ?_) (fun h => ?_)
 ·have hc : ¬ x.2.2 = y.2.2 := by simpa using h
  simp (maxSteps := 2000000) (disch := first | omega | (simp only [AH.zN, AH.zP] <;> omega) | fail) only [amR Tryd.prog ro X, amS, seval, reduceCtorEq, ty4, ty9, ty120]
  exact ⟨by rw [decide_eq_false (fun e => hc (by rw [e]))], by ((repeat' (first | exact Ext.refl _ | assumption | refine Ext.trans ?_ (Ext.new _ _) | refine Ext.put ?_ ?_ _ | refine Ext.trans ?_ (by assumption))) <;> (first | omega | (simp only [AH.zN, AH.zP] <;> omega)))⟩
 have c3 : x.2.2 = y.2.2 := by simpa using h
 simp (maxSteps := 2000000) (disch := first | omega | (simp only [AH.zN, AH.zP] <;> omega) | fail) only [amR Tryd.prog ro X, amS, seval, reduceCtorEq, ty4, ty9, ty120]
 exact ⟨by rw [decide_eq_true (Prod.ext c1 (Prod.ext c2 (c3)))], by ((repeat' (first | exact Ext.refl _ | assumption | refine Ext.trans ?_ (Ext.new _ _) | refine Ext.put ?_ ?_ _ | refine Ext.trans ?_ (by assumption))) <;> (first | omega | (simp only [AH.zN, AH.zP] <;> omega)))⟩
theorem eqL_Glance (A : AH) (hro : ro ≤ A.size) (s t : Sl) (l k : List TGlance) (F G : List Nat) (hs : SlR A s l F) (ht : SlR A t k G) (hz : szL Mk.sz l < 4294967296) :
 ACalls Tryd.prog ro X 181 [s.v, t.v] A (fun r A' => r = .ret (.bool (decide (l = k))) ∧ Ext A A') := by
 have hl := szL_length Mk.sz l
 have hw : Dat.w TGlance = 3 := rfl
 refine ACalls.enterQ (rs := [.tmp 4]) Tryd.func181 rfl (by kernel_rfl) rfl ?_
 simp (maxSteps := 2000000) (disch := first | omega | (simp only [AH.zN, AH.zP] <;> omega) | fail) only [amR Tryd.prog ro X, amS, seval, reduceCtorEq, ty3, ty4, ty9, ty116, ty120, hs.len, ht.len]
 refine CondB.split (fun h => ?_) (fun h => ?_)
 ·simp (maxSteps := 2000000) (disch := first | omega | (simp only [AH.zN, AH.zP] <;> omega) | fail) only [amR Tryd.prog ro X, amS, seval, reduceCtorEq, ty3, ty4, ty9, ty116, ty120]
  have : l ≠ k := fun e => by simp [e] at h
  simp [this, Ext.refl]
 ·simp (maxSteps := 2000000) (disch := first | omega | (simp only [AH.zN, AH.zP] <;> omega) | fail) only [amR Tryd.prog ro X, amS, seval, reduceCtorEq, ty3, ty4, ty9, ty116, ty120]
  have hlk : l.length = k.length := by simp at h; omega
  refine Wp.loopC (fun n e A' => Ext A A' ∧ e 0 = s.v ∧ e 1 = t.v ∧ ∃ i : Nat, i ≤ l.length ∧ n = l.length - i ∧ e 5 = .int .i64 i ∧ l.take i = k.take i) (l.length - 0) ?_ ?_
  ·simp (maxSteps := 2000000) (disch := first | omega | (simp only [AH.zN, AH.zP] <;> omega) | fail) only [amV, amH, amQ, amL, amN Tryd.prog, amS, seval, reduceCtorEq, ty3, ty4, ty9, ty116, ty120]
   exact ⟨Ext.refl A, 0, by simp, rfl, rfl, by simp⟩
  ·rintro n e A' ⟨hE, h0, h1, i, hi, rfl, h5, heq⟩
   have v1 := hE.size
   simp (maxSteps := 2000000) (disch := first | omega | (simp only [AH.zN, AH.zP] <;> omega) | fail) only [amR Tryd.prog ro X, amS, seval, reduceCtorEq, ty3, ty4, ty9, ty116, ty120, h0, h1, h5, hs.len]
   refine CondB.split (fun h => ?_) (fun h => ?_)
   ·simp (maxSteps := 2000000) (disch := first | omega | (simp only [AH.zN, AH.zP] <;> omega) | fail) only [amR Tryd.prog ro X, amS, seval, reduceCtorEq, ty3, ty4, ty9, ty116, ty120]
    have hil : i < l.length := by simp at h; omega
    obtain ⟨n1, b1, m1, i1, cs, Fi, c1, q1, _⟩ := (hs.ext hE).row hil
    obtain ⟨n2, b2, m2, i2, ds, Gi, c2, q2, _⟩ := (ht.ext hE).row (i := i) (by omega)
    rw [aRow_eq, hw] at c1 c2
    have hzi := szL_get Mk.sz l i hil
    refine Wp.runG [] (by kernel_rfl) (.inl (by kernel_rfl)) ?_
    simp (maxSteps := 2000000) (disch := first | omega | (simp only [AH.zN, AH.zP] <;> omega) | fail) only [amR Tryd.prog ro X, amS, seval, reduceCtorEq, ty3, ty4, ty9, ty116, ty120, h0, h1, h5, n1, n2, c1, c2]
    refine (eq_Glance _ (by omega) l[i] k[i] cs ds Fi Gi q1 q2 (by omega)).mono ?_
    rintro r A2 ⟨rfl, hE2⟩
    simp (maxSteps := 2000000) (disch := first | omega | (simp only [AH.zN, AH.zP] <;> omega) | fail) only [amR Tryd.prog ro X, amS, seval, reduceCtorEq, ty3, ty4, ty9, ty116, ty120]
    refine CondB.split (fun h => ?_) (fun h => ?_)
    ·simp (maxSteps := 2000000) (disch := first | omega | (simp only [AH.zN, AH.zP] <;> omega) | fail) only [amR Tryd.prog ro X, amS, seval, reduceCtorEq, ty3, ty4, ty9, ty116, ty120]
     have : l ≠ k := by
      intro e
      subst e
      simp at h
     simp [this, hE.trans hE2]
    ·simp (maxSteps := 2000000) (disch := first | omega | (simp only [AH.zN, AH.zP] <;> omega) | fail) only [amR Tryd.prog ro X, amS, seval, reduceCtorEq, ty3, ty4, ty9, ty116, ty120, h0, h1, h5]
     refine ⟨l.length - (i + 1), by omega, hE.trans hE2, i + 1, by omega, rfl, by simp, ?_⟩
     rw [List.take_succ_eq_append_getElem hil, List.take_succ_eq_append_getElem (by omega : i < k.length), heq]
     have : l[i] = k[i] := by simpa using h
     rw [this]
   ·simp (maxSteps := 2000000) (disch := first | omega | (simp only [AH.zN, AH.zP] <;> omega) | fail) only [amR Tryd.prog ro X, amS, seval, reduceCtorEq, ty3, ty4, ty9, ty116, ty120]
    have : l = k := by
     have hi2 : i = l.length := by simp at h; omega
     subst hi2
     rw [List.take_length] at heq
     rw [hlk, List.take_length] at heq
     exact heq
    simp [this, hE]
theorem sz_Glance (A : AH) (hro : ro ≤ A.size) (x : TGlance) (cs : List Value) (F : List Nat) (h : Dat.rep A x cs F) (hn : Mk.bd x) (left : Int) (hz : 0 ≤ left ∧ left ≤ 2097152) :
 ACalls Tryd.prog ro X 218 [.agg cs.toArray, .int .i64 left] A (fun r A' => r = .ret (.int .i64 (szR left (Mk.sz x))) ∧ Ext A A') := by
 obtain ⟨rfl, rfl, z1, z2⟩ := rep_Glance.1 h
 have y1 := big_lt z1
 have y2 := big_lt z2
 have hsz : Mk.sz x = x.1.size + (0 + (x.2.2.size)) := rfl
 refine ACalls.enterQ (rs := [.tmp 4]) Tryd.func218 rfl (by kernel_rfl) rfl ?_
 simp (maxSteps := 2000000) (disch := first | omega | (simp only [AH.zN, AH.zP] <;> omega) | fail) only [amR Tryd.prog ro X, amS, seval, reduceCtorEq, ty3, ty4, ty9, ty282]
 refine CondB.split (fun h => ?_) (fun h => ?_)
 ·have hc : left - (x.1.size : Nat) < 0 := by simpa using h
  simp (maxSteps := 2000000) (disch := first | omega | (simp only [AH.zN, AH.zP] <;> omega) | fail) only [amR Tryd.prog ro X, amS, seval, reduceCtorEq, ty3, ty4, ty9, ty282]
  exact ⟨(by rw [szR_neg (by omega : left - (Mk.sz x : Nat) < 0)]), by ((repeat' (first | exact Ext.refl _ | assumption | refine Ext.trans ?_ (Ext.new _ _) | refine Ext.put ?_ ?_ _ | refine Ext.trans ?_ (by assumption))) <;> (first | omega | (simp only [AH.zN, AH.zP] <;> omega)))⟩
 have c1 : ¬ (left - (x.1.size : Nat) < 0) := by simpa using h
 simp (maxSteps := 2000000) (disch := first | omega | (simp only [AH.zN, AH.zP] <;> omega) | fail) only [amR Tryd.prog ro X, amS, seval, reduceCtorEq, ty3, ty4, ty9, ty282]
 refine CondB.split (fun h => ?_) (fun h => ?_)
 ·have hc : left - (x.1.size : Nat) - (x.2.2.size : Nat) < 0 := by simpa using h
  simp (maxSteps := 2000000) (disch := first | omega | (simp only [AH.zN, AH.zP] <;> omega) | fail) only [amR Tryd.prog ro X, amS, seval, reduceCtorEq, ty3, ty4, ty9, ty282]
  exact ⟨(by rw [szR_neg (by omega : left - (Mk.sz x : Nat) < 0)]), by ((repeat' (first | exact Ext.refl _ | assumption | refine Ext.trans ?_ (Ext.new _ _) | refine Ext.put ?_ ?_ _ | refine Ext.trans ?_ (by assumption))) <;> (first | omega | (simp only [AH.zN, AH.zP] <;> omega)))⟩
 have c2 : ¬ (left - (x.1.size : Nat) - (x.2.2.size : Nat) < 0) := by simpa using h
 simp (maxSteps := 2000000) (disch := first | omega | (simp only [AH.zN, AH.zP] <;> omega) | fail) only [amR Tryd.prog ro X, amS, seval, reduceCtorEq, ty3, ty4, ty9, ty282]
 exact ⟨by rw [szR_pos (by omega : ¬ left - (Mk.sz x : Nat) < 0)]; congr 2 <;> omega, by ((repeat' (first | exact Ext.refl _ | assumption | refine Ext.trans ?_ (Ext.new _ _) | refine Ext.put ?_ ?_ _ | refine Ext.trans ?_ (by assumption))) <;> (first | omega | (simp only [AH.zN, AH.zP] <;> omega)))⟩
theorem szL_Glance (A : AH) (hro : ro ≤ A.size) (s : Sl) (l : List TGlance) (F : List Nat) (hs : SlR A s l F) (hn : Mk.bd l) (left : Int) (hz : 0 ≤ left ∧ left ≤ 2097152) :
 ACalls Tryd.prog ro X 176 [s.v, .int .i64 left] A (fun r A' => r = .ret (.int .i64 (szR left (szL Mk.sz l))) ∧ Ext A A') := by
 have hl := hn.1
 have hw : Dat.w TGlance = 3 := rfl
 refine ACalls.enterQ (rs := [.tmp 4]) Tryd.func176 rfl (by kernel_rfl) rfl ?_
 simp (maxSteps := 2000000) (disch := first | omega | (simp only [AH.zN, AH.zP] <;> omega) | fail) only [amR Tryd.prog ro X, amS, seval, reduceCtorEq, ty3, ty4, ty9, ty193, ty282, hs.len]
 refine CondB.split (fun h => ?_) (fun h => ?_)
 ·simp (maxSteps := 2000000) (disch := first | omega | (simp only [AH.zN, AH.zP] <;> omega) | fail) only [amR Tryd.prog ro X, amS, seval, reduceCtorEq, ty3, ty4, ty9, ty193, ty282]
  have h2 : left - l.length < 0 := by simpa using h
  have := szL_length Mk.sz l
  exact ⟨by rw [szR_neg (by omega)], Ext.refl A⟩
 ·simp (maxSteps := 2000000) (disch := first | omega | (simp only [AH.zN, AH.zP] <;> omega) | fail) only [amR Tryd.prog ro X, amS, seval, reduceCtorEq, ty3, ty4, ty9, ty193, ty282]
  refine Wp.loopC (fun n e A' => Ext A A' ∧ e 0 = s.v ∧ ∃ i : Nat, i ≤ l.length ∧ n = l.length - i ∧ e 5 = .int .i64 i ∧ e 1 = .int .i64 (left - szL Mk.sz (l.take i) + i - l.length) ∧ 0 ≤ left - szL Mk.sz (l.take i) + i - l.length) (l.length - 0) ?_ ?_
  ·simp (maxSteps := 2000000) (disch := first | omega | (simp only [AH.zN, AH.zP] <;> omega) | fail) only [amV, amH, amQ, amL, amN Tryd.prog, amS, seval, reduceCtorEq, ty3, ty4, ty9, ty193, ty282]
   refine ⟨Ext.refl A, 0, by omega, rfl, rfl, ?_⟩
   have : 0 ≤ left - l.length := by simpa using h
   simp only [List.take_zero, szL_nil]
   exact ⟨by congr 1 <;> omega, by omega⟩
  ·rintro n e A' ⟨hE, h0, i, hi, rfl, h5, h1, hle⟩
   have v1 := hE.size
   simp (maxSteps := 2000000) (disch := first | omega | (simp only [AH.zN, AH.zP] <;> omega) | fail) only [amR Tryd.prog ro X, amS, seval, reduceCtorEq, ty3, ty4, ty9, ty193, ty282, h0, h5, hs.len]
   refine CondB.split (fun h => ?_) (fun h => ?_)
   ·have hil : i < l.length := by simp at h; omega
    obtain ⟨n1, b1, m1, i1, cs, Fi, c1, q1, _⟩ := (hs.ext hE).row hil
    rw [aRow_eq, hw] at c1
    have hst := szL_take_succ Mk.sz l i hil
    have hge := szL_take_le Mk.sz l (i + 1)
    have hge0 := szL_take_le Mk.sz l i
    have hti := szL_length Mk.sz (l.take i)
    rw [List.length_take, Nat.min_eq_left hi] at hti
    simp (maxSteps := 2000000) (disch := first | omega | (simp only [AH.zN, AH.zP] <;> omega) | fail) only [amR Tryd.prog ro X, amS, seval, reduceCtorEq, ty3, ty4, ty9, ty193, ty282, h0, h1, h5, n1, c1]
    refine (sz_Glance _ (by omega) l[i] cs Fi q1 (hn.2 _ (List.getElem_mem hil)) _ ⟨hle, by omega⟩).mono ?_
    rintro r A2 ⟨rfl, hE2⟩
    by_cases hc : left - szL Mk.sz (l.take i) + i - l.length - (Mk.sz l[i] : Nat) < 0
    ·rw [szR_neg hc]
     simp (maxSteps := 2000000) (disch := first | omega | (simp only [AH.zN, AH.zP] <;> omega) | fail) only [amR Tryd.prog ro X, amS, seval, reduceCtorEq, ty3, ty4, ty9, ty193, ty282]
     exact ⟨by rw [szR_neg (by omega)], hE.trans hE2⟩
    ·rw [szR_pos hc]
     simp (maxSteps := 2000000) (disch := first | omega | (simp only [AH.zN, AH.zP] <;> omega) | fail) only [amR Tryd.prog ro X, amS, seval, reduceCtorEq, ty3, ty4, ty9, ty193, ty282, h0, h5, hc]
     exact ⟨l.length - (i + 1), by omega, hE.trans hE2, i + 1, by omega, rfl, rfl, by congr 1 <;> omega, by omega⟩
   ·have hil : i = l.length := by simp at h; omega
    subst hil
    rw [List.take_length] at h1 hle
    simp (maxSteps := 2000000) (disch := first | omega | (simp only [AH.zN, AH.zP] <;> omega) | fail) only [amR Tryd.prog ro X, amS, seval, reduceCtorEq, ty3, ty4, ty9, ty193, ty282, h1]
    exact ⟨by rw [szR_pos (by omega)]; congr 2; omega, hE⟩
theorem to_Record (A : AH) (hro : ro ≤ A.size) (x : TRecord) (cs : List Value) (F : List Nat) (h : Dat.rep A x cs F) (hz : Mk.sz x < 4294967296) :
 ACalls Tryd.prog ro X 127 [.agg cs.toArray] A (fun r A' => ∃ cs' F', r = .ret (.agg cs'.toArray) ∧ Dat.rep A' x cs' F' ∧ Fresh A F' A' ∧ Ext A A') := by
 obtain ⟨s1, s2, G1, G2, rfl, rfl, h1, h2, z1⟩ := rep_Record.1 h
 have y1 := big_lt z1
 have hsz : Mk.sz x = (szL Mk.sz x.1) + (szL Mk.sz x.2.1 + (x.2.2.size)) := rfl
 refine ACalls.enterQ (rs := [.cell 2 118]) Tryd.func127 rfl (by kernel_rfl) rfl ?_
 simp (maxSteps := 2000000) (disch := first | omega | (simp only [AH.zN, AH.zP] <;> omega) | fail) only [amR Tryd.prog ro X, amS, seval, reduceCtorEq, ty9, ty22, ty24, ty27, ty29, ty116, ty118, ty120, ty193, ty195, ty282]
 refine (to_Program _ (by first | omega | (simp only [AH.zN, AH.zP] <;> omega)) x.1 _ _ (rep_Program.2 ⟨s1, _, rfl, rfl, h1.ext (by ((repeat' (first | exact Ext.refl _ | assumption | refine Ext.trans ?_ (Ext.new _ _) | refine Ext.put ?_ ?_ _ | refine Ext.trans ?_ (by assumption))) <;> (first | omega | (simp only [AH.zN, AH.zP] <;> omega))))⟩) (by show szL Mk.sz _ < _; omega)).mono ?_
 rintro r B1 ⟨c1, H1, rfl, q1', f1, hE1⟩
 obtain ⟨t1, _, rfl, rfl, q1⟩ := rep_Program.1 q1'
 have v1 := hE1.size
 try simp only [AH.zN, AH.zP] at v1
 simp (maxSteps := 2000000) (disch := first | omega | (simp only [AH.zN, AH.zP] <;> omega) | fail) only [amR Tryd.prog ro X, amS, seval, reduceCtorEq, ty9, ty22, ty24, ty27, ty29, ty116, ty118, ty120, ty193, ty195, ty282, hE1.get]
 refine (toL_Glance _ (by first | omega | (simp only [AH.zN, AH.zP] <;> omega)) s2 _ _ (h2.ext (by ((repeat' (first | exact Ext.refl _ | assumption | refine Ext.trans ?_ (Ext.new _ _) | refine Ext.put ?_ ?_ _ | refine Ext.trans ?_ (by assumption))) <;> (first | omega | (simp only [AH.zN, AH.zP] <;> omega))))) (by omega)).mono ?_
 rintro r B2 ⟨t2, H2, rfl, q2, f2, hE2⟩
 have v2 := hE2.size
 try simp only [AH.zN, AH.zP] at v2
 simp (maxSteps := 2000000) (disch := first | omega | (simp only [AH.zN, AH.zP] <;> omega) | fail) only [amR Tryd.prog ro X, amS, seval, reduceCtorEq, ty9, ty22, ty24, ty27, ty29, ty116, ty118, ty120, ty193, ty195, ty282, hE1.get, hE2.get]
 exact ⟨_, _, rfl, rep_Record.2 ⟨t1, t2, _, _, rfl, rfl, q1.low f1.lo (by ((repeat' (first | exact Low.refl _ _ | assumption | refine Low.new ?_ _ | refine Low.put ?_ ?_ _ | refine Low.trans ?_ (Ext.low (by assumption) _))) <;> (first | omega | (simp only [AH.zN, AH.zP] <;> omega)))), q2.low f2.lo (by ((repeat' (first | exact Low.refl _ _ | assumption | refine Low.new ?_ _ | refine Low.put ?_ ?_ _ | refine Low.trans ?_ (Ext.low (by assumption) _))) <;> (first | omega | (simp only [AH.zN, AH.zP] <;> omega)))), z1⟩, (f1.mono (by first | omega | (simp only [AH.zN, AH.zP] <;> omega)) (Nat.le_refl _)).append (f2.mono (by first | omega | (simp only [AH.zN, AH.zP] <;> omega)) (by first | omega | (simp only [AH.zN, AH.zP] <;> omega))) (by first | omega | (simp only [AH.zN, AH.zP] <;> omega)) (by first | omega | (simp only [AH.zN, AH.zP] <;> omega)), by ((repeat' (first | exact Ext.refl _ | assumption | refine Ext.trans ?_ (Ext.new _ _) | refine Ext.put ?_ ?_ _ | refine Ext.trans ?_ (by assumption))) <;> (first | omega | (simp only [AH.zN, AH.zP] <;> omega)))⟩
theorem toL_Record (A : AH) (hro : ro ≤ A.size) (s : Sl) (l : List TRecord) (F : List Nat) (hs : SlR A s l F) (hz : szL Mk.sz l < 4294967296) :
 ACalls Tryd.prog ro X 61 [s.v] A (fun r A' => ∃ t G, r = .ret t.v ∧ SlR A' t l G ∧ Fresh A G A' ∧ Ext A A') := by
 have hl := szL_length Mk.sz l
 refine ACalls.enterQ (rs := [.tmp 2]) Tryd.func61 rfl (by kernel_rfl) rfl ?_
 simp (maxSteps := 2000000) (disch := first | omega | (simp only [AH.zN, AH.zP] <;> omega) | fail) only [amR Tryd.prog ro X, amS, seval, reduceCtorEq, ty3, ty9, ty24, ty29, ty34, ty39, ty116, ty118, ty193, ty195, hs.len]
 refine Wp.loopC (fun n e A' => Ext A A' ∧ A.size < A'.size ∧ e 0 = s.v ∧ e 3 = (Sl.mk false A.size 0 l.length l.length).v ∧ ∃ i : Nat, i ≤ l.length ∧ n = l.length - i ∧ e 4 = .int .i64 i ∧ ∃ G, Part A' A.size l.length (l.take i) G ∧ Fresh (A.new .dead) G A') (l.length - 0) ?_ ?_
 ·simp (maxSteps := 2000000) (disch := first | omega | (simp only [AH.zN, AH.zP] <;> omega) | fail) only [amV, amH, amQ, amL, amN Tryd.prog, amS, seval, reduceCtorEq, ty3, ty9, ty24, ty29, ty34, ty39, ty116, ty118, ty193, ty195]
  refine ⟨Ext.new A _, by omega, 0, by omega, rfl, rfl, [], ?_, Fresh.nil _ _⟩
  rw [List.take_zero]
  exact Part.start (by simp [AH.zN]) (AH.gNs _ _) (fill_flat _ _ _ rfl)
 ·rintro n e A' ⟨hE, hlt, h0, h3, i, hi, rfl, h4, G, hp, hf⟩
  have hs' := hs.ext hE
  simp (maxSteps := 2000000) (disch := first | omega | (simp only [AH.zN, AH.zP] <;> omega) | fail) only [amR Tryd.prog ro X, amS, seval, reduceCtorEq, ty3, ty9, ty24, ty29, ty34, ty39, ty116, ty118, ty193, ty195, h0, h3, h4, hs.len]
  refine CondB.split (fun h => ?_) (fun h => ?_)
  ·have hil : i < l.length := by simp at h; omega
   obtain ⟨n1, b1, m1, i1, cs, Fi, c1, q1, _⟩ := hs'.row hil
   rw [aRow_eq] at c1
   have hw : Dat.w TRecord = 3 := rfl
   rw [hw] at c1
   have hzi := szL_get Mk.sz l i hil
   simp (maxSteps := 2000000) (disch := first | omega | (simp only [AH.zN, AH.zP] <;> omega) | fail) only [amR Tryd.prog ro X, amS, seval, reduceCtorEq, ty3, ty9, ty24, ty29, ty34, ty39, ty116, ty118, ty193, ty195, h0, h3, h4, n1, c1]
   refine (to_Record _ (by omega) l[i] cs Fi q1 (by omega)).mono ?_
   rintro r A2 ⟨cs', F', rfl, q2, f2, hE2⟩
   have v2 := hE2.size
   have hp2 := hp.ext hE2
   have hl2 : cs'.length = 3 := Dat.len q2
   obtain ⟨hlt2, ⟨c, g1, g2, g3⟩, hle⟩ := id hp2
   have hwl : (i + 1) * 3 ≤ l.length * 3 := Nat.mul_le_mul_right _ hil
   rw [hw] at g1 g2
   simp (maxSteps := 2000000) (disch := first | omega | (simp only [AH.zN, AH.zP] <;> omega) | fail) only [amR Tryd.prog ro X, amS, seval, reduceCtorEq, ty3, ty9, ty24, ty29, ty34, ty39, ty116, ty118, ty193, ty195, h0, h3, h4, g1, hl2]
   refine ⟨l.length - (i + 1), by omega, (hE.trans hE2).put (Nat.le_refl _) _, by omega, i + 1, by omega, rfl, by simp, G ++ F', ?_, (hf.mono (Nat.le_refl _) (Nat.le_refl _)).append (f2.mono (Nat.le_refl _) (Nat.le_refl _)) (by simp [AH.zN]; omega) v2⟩
   have := hp2.store (fun hm => by have := hf.lo _ hm; simp [AH.zN] at this; omega) q2 (fun hm => by have := f2.lo _ hm; omega) (by simp; omega) g1
   rw [List.take_succ_eq_append_getElem hil]
   rw [List.length_take, Nat.min_eq_left hi, hw] at this
   exact this
  ·have hil : i = l.length := by simp at h; omega
   subst hil
   simp (maxSteps := 2000000) (disch := first | omega | (simp only [AH.zN, AH.zP] <;> omega) | fail) only [amR Tryd.prog ro X, amS, seval, reduceCtorEq, ty3, ty9, ty24, ty29, ty34, ty39, ty116, ty118, ty193, ty195, h3]
   rw [List.take_length] at hp
   exact ⟨_, _, rfl, hp.done rfl (by unfold BIG; omega), Fresh.cons (Nat.le_refl _) (by simp [AH.zN]) hf (by simp only [AH.zN]; omega) (by simp only [AH.zN]; omega), hE⟩
theorem eq_Record (A : AH) (hro : ro ≤ A.size) (x y : TRecord) (cs ds : List Value) (F F' : List Nat) (h : Dat.rep A x cs F) (h' : Dat.rep A y ds F') (hz : Mk.sz x < 4294967296) :
 ACalls Tryd.prog ro X 132 [.agg cs.toArray, .agg ds.toArray] A (fun r A' => r = .ret (.bool (decide (x = y))) ∧ Ext A A') := by
 obtain ⟨s1, s2, G1, G2, rfl, rfl, h1, h2, z1⟩ := rep_Record.1 h
 obtain ⟨s1', s2', G1', G2', rfl, rfl, h1', h2', z1'⟩ := rep_Record.1 h'
 have hsz : Mk.sz x = (szL Mk.sz x.1) + (szL Mk.sz x.2.1 + (x.2.2.size)) := rfl
 refine ACalls.enterQ (rs := [.tmp 4]) Tryd.func132 rfl (by kernel_rfl) rfl ?_
 simp (maxSteps := 2000000) (disch := first | omega | (simp only [AH.zN, AH.zP] <;> omega) | fail) only [amR Tryd.prog ro X, amS, seval, reduceCtorEq, ty4, ty9, ty27, ty29, ty116, ty118, ty120]
 refine (eq_Program _ (by first | omega | (simp only [AH.zN, AH.zP] <;> omega)) x.1 y.1 _ _ _ _ (rep_Program.2 ⟨s1, _, rfl, rfl, h1.ext (by ((repeat' (first | exact Ext.refl _ | assumption | refine Ext.trans ?_ (Ext.new _ _) | refine Ext.put ?_ ?_ _ | refine Ext.trans ?_ (by assumption))) <;> (first | omega | (simp only [AH.zN, AH.zP] <;> omega))))⟩) (rep_Program.2 ⟨s1', _, rfl, rfl, h1'.ext (by ((repeat' (first | exact Ext.refl _ | assumption | refine Ext.trans ?_ (Ext.new _ _) | refine Ext.put ?_ ?_ _ | refine Ext.trans ?_ (by assumption))) <;> (first | omega | (simp only [AH.zN, AH.zP] <;> omega))))⟩) (by show szL Mk.sz x.1 < _; omega)).mono ?_
 rintro r B1 ⟨rfl, hE1⟩
 have v1 := hE1.size
 try simp only [AH.zN, AH.zP] at v1
 simp (maxSteps := 2000000) (disch := first | omega | (simp only [AH.zN, AH.zP] <;> omega) | fail) only [amR Tryd.prog ro X, amS, seval, reduceCtorEq, ty4, ty9, ty27, ty29, ty116, ty118, ty120, hE1.get]
 refine CondB.split (fun h => ?_) (fun h => ?_)
 ·have hc : ¬ x.1 = y.1 := by simpa using h
  simp (maxSteps := 2000000) (disch := first | omega | (simp only [AH.zN, AH.zP] <;> omega) | fail) only [amR Tryd.prog ro X, amS, seval, reduceCtorEq, ty4, ty9, ty27, ty29, ty116, ty118, ty120, hE1.get]
  exact ⟨by rw [decide_eq_false (fun e => hc (by rw [e]))], by ((repeat' (first | exact Ext.refl _ | assumption | refine Ext.trans ?_ (Ext.new _ _) | refine Ext.put ?_ ?_ _ | refine Ext.trans ?_ (by assumption))) <;> (first | omega | (simp only [AH.zN, AH.zP] <;> omega)))⟩
 have c1 : x.1 = y.1 := by simpa using h
 simp (maxSteps := 2000000) (disch := first | omega | (simp only [AH.zN, AH.zP] <;> omega) | fail) only [amR Tryd.prog ro X, amS, seval, reduceCtorEq, ty4, ty9, ty27, ty29, ty116, ty118, ty120, hE1.get]
 refine (eqL_Glance _ (by first | omega | (simp only [AH.zN, AH.zP] <;> omega)) s2 s2' _ _ _ _ (h2.ext (by ((repeat' (first | exact Ext.refl _ | assumption | refine Ext.trans ?_ (Ext.new _ _) | refine Ext.put ?_ ?_ _ | refine Ext.trans ?_ (by assumption))) <;> (first | omega | (simp only [AH.zN, AH.zP] <;> omega))))) (h2'.ext (by ((repeat' (first | exact Ext.refl _ | assumption | refine Ext.trans ?_ (Ext.new _ _) | refine Ext.put ?_ ?_ _ | refine Ext.trans ?_ (by assumption))) <;> (first | omega | (simp only [AH.zN, AH.zP] <;> omega))))) (by omega)).mono ?_
 rintro r B2 ⟨rfl, hE2⟩
 have v2 := hE2.size
 try simp only [AH.zN, AH.zP] at v2
 simp (maxSteps := 2000000) (disch := first | omega | (simp only [AH.zN, AH.zP] <;> omega) | fail) only [amR Tryd.prog ro X, amS, seval, reduceCtorEq, ty4, ty9, ty27, ty29, ty116, ty118, ty120, hE1.get, hE2.get]
 refine CondB.split (fun h => ?_) (fun h => ?_)
 ·have hc : ¬ x.2.1 = y.2.1 := by simpa using h
  simp (maxSteps := 2000000) (disch := first | omega | (simp only [AH.zN, AH.zP] <;> omega) | fail) only [amR Tryd.prog ro X, amS, seval, reduceCtorEq, ty4, ty9, ty27, ty29, ty116, ty118, ty120, hE1.get, hE2.get]
  exact ⟨by rw [decide_eq_false (fun e => hc (by rw [e]))], by ((repeat' (first | exact Ext.refl _ | assumption | refine Ext.trans ?_ (Ext.new _ _) | refine Ext.put ?_ ?_ _ | refine Ext.trans ?_ (by assumption))) <;> (first | omega | (simp only [AH.zN, AH.zP] <;> omega)))⟩
 have c2 : x.2.1 = y.2.1 := by simpa using h
 simp (maxSteps := 2000000) (disch := first | omega | (simp only [AH.zN, AH.zP] <;> omega) | fail) only [amR Tryd.prog ro X, amS, seval, reduceCtorEq, ty4, ty9, ty27, ty29, ty116, ty118, ty120, hE1.get, hE2.get]
 refine CondB.split (fun h => ?_) (fun h => ?_)
 ·have hc : ¬ x.2.2 = y.2.2 := by simpa using h
  simp (maxSteps := 2000000) (disch := first | omega | (simp only [AH.zN, AH.zP] <;> omega) | fail) only [amR Tryd.prog ro X, amS, seval, reduceCtorEq, ty4, ty9, ty27, ty29, ty116, ty118, ty120, hE1.get, hE2.get]
  exact ⟨by rw [decide_eq_false (fun e => hc (by rw [e]))], by ((repeat' (first | exact Ext.refl _ | assumption | refine Ext.trans ?_ (Ext.new _ _) | refine Ext.put ?_ ?_ _ | refine Ext.trans ?_ (by assumption))) <;> (first | omega | (simp only [AH.zN, AH.zP] <;> omega)))⟩
 have c3 : x.2.2 = y.2.2 := by simpa using h
 simp (maxSteps := 2000000) (disch := first | omega | (simp only [AH.zN, AH.zP] <;> omega) | fail) only [amR Tryd.prog ro X, amS, seval, reduceCtorEq, ty4, ty9, ty27, ty29, ty116, ty118, ty120, hE1.get, hE2.get]
 exact ⟨by rw [decide_eq_true (Prod.ext c1 (Prod.ext c2 (c3)))], by ((repeat' (first | exact Ext.refl _ | assumption | refine Ext.trans ?_ (Ext.new _ _) | refine Ext.put ?_ ?_ _ | refine Ext.trans ?_ (by assumption))) <;> (first | omega | (simp only [AH.zN, AH.zP] <;> omega)))⟩
theorem eqL_Record (A : AH) (hro : ro ≤ A.size) (s t : Sl) (l k : List TRecord) (F G : List Nat) (hs : SlR A s l F) (ht : SlR A t k G) (hz : szL Mk.sz l < 4294967296) :
 ACalls Tryd.prog ro X 68 [s.v, t.v] A (fun r A' => r = .ret (.bool (decide (l = k))) ∧ Ext A A') := by
 have hl := szL_length Mk.sz l
 have hw : Dat.w TRecord = 3 := rfl
 refine ACalls.enterQ (rs := [.tmp 4]) Tryd.func68 rfl (by kernel_rfl) rfl ?_
 simp (maxSteps := 2000000) (disch := first | omega | (simp only [AH.zN, AH.zP] <;> omega) | fail) only [amR Tryd.prog ro X, amS, seval, reduceCtorEq, ty3, ty4, ty9, ty29, ty39, ty116, ty118, hs.len, ht.len]
 refine CondB.split (fun h => ?_) (fun h => ?_)
 ·simp (maxSteps := 2000000) (disch := first | omega | (simp only [AH.zN, AH.zP] <;> omega) | fail) only [amR Tryd.prog ro X, amS, seval, reduceCtorEq, ty3, ty4, ty9, ty29, ty39, ty116, ty118]
  have : l ≠ k := fun e => by simp [e] at h
  simp [this, Ext.refl]
 ·simp (maxSteps := 2000000) (disch := first | omega | (simp only [AH.zN, AH.zP] <;> omega) | fail) only [amR Tryd.prog ro X, amS, seval, reduceCtorEq, ty3, ty4, ty9, ty29, ty39, ty116, ty118]
  have hlk : l.length = k.length := by simp at h; omega
  refine Wp.loopC (fun n e A' => Ext A A' ∧ e 0 = s.v ∧ e 1 = t.v ∧ ∃ i : Nat, i ≤ l.length ∧ n = l.length - i ∧ e 5 = .int .i64 i ∧ l.take i = k.take i) (l.length - 0) ?_ ?_
  ·simp (maxSteps := 2000000) (disch := first | omega | (simp only [AH.zN, AH.zP] <;> omega) | fail) only [amV, amH, amQ, amL, amN Tryd.prog, amS, seval, reduceCtorEq, ty3, ty4, ty9, ty29, ty39, ty116, ty118]
   exact ⟨Ext.refl A, 0, by simp, rfl, rfl, by simp⟩
  ·rintro n e A' ⟨hE, h0, h1, i, hi, rfl, h5, heq⟩
   have v1 := hE.size
   simp (maxSteps := 2000000) (disch := first | omega | (simp only [AH.zN, AH.zP] <;> omega) | fail) only [amR Tryd.prog ro X, amS, seval, reduceCtorEq, ty3, ty4, ty9, ty29, ty39, ty116, ty118, h0, h1, h5, hs.len]
   refine CondB.split (fun h => ?_) (fun h => ?_)
   ·simp (maxSteps := 2000000) (disch := first | omega | (simp only [AH.zN, AH.zP] <;> omega) | fail) only [amR Tryd.prog ro X, amS, seval, reduceCtorEq, ty3, ty4, ty9, ty29, ty39, ty116, ty118]
    have hil : i < l.length := by simp at h; omega
    obtain ⟨n1, b1, m1, i1, cs, Fi, c1, q1, _⟩ := (hs.ext hE).row hil
    obtain ⟨n2, b2, m2, i2, ds, Gi, c2, q2, _⟩ := (ht.ext hE).row (i := i) (by omega)
    rw [aRow_eq, hw] at c1 c2
    have hzi := szL_get Mk.sz l i hil
    refine Wp.runG [] (by kernel_rfl) (.inl (by kernel_rfl)) ?_
    simp (maxSteps := 2000000) (disch := first | omega | (simp only [AH.zN, AH.zP] <;> omega) | fail) only [amR Tryd.prog ro X, amS, seval, reduceCtorEq, ty3, ty4, ty9, ty29, ty39, ty116, ty118, h0, h1, h5, n1, n2, c1, c2]
    refine (eq_Record _ (by omega) l[i] k[i] cs ds Fi Gi q1 q2 (by omega)).mono ?_
    rintro r A2 ⟨rfl, hE2⟩
    simp (maxSteps := 2000000) (disch := first | omega | (simp only [AH.zN, AH.zP] <;> omega) | fail) only [amR Tryd.prog ro X, amS, seval, reduceCtorEq, ty3, ty4, ty9, ty29, ty39, ty116, ty118]
    refine CondB.split (fun h => ?_) (fun h => ?_)
    ·simp (maxSteps := 2000000) (disch := first | omega | (simp only [AH.zN, AH.zP] <;> omega) | fail) only [amR Tryd.prog ro X, amS, seval, reduceCtorEq, ty3, ty4, ty9, ty29, ty39, ty116, ty118]
     have : l ≠ k := by
      intro e
      subst e
      simp at h
     simp [this, hE.trans hE2]
    ·simp (maxSteps := 2000000) (disch := first | omega | (simp only [AH.zN, AH.zP] <;> omega) | fail) only [amR Tryd.prog ro X, amS, seval, reduceCtorEq, ty3, ty4, ty9, ty29, ty39, ty116, ty118, h0, h1, h5]
     refine ⟨l.length - (i + 1), by omega, hE.trans hE2, i + 1, by omega, rfl, by simp, ?_⟩
     rw [List.take_succ_eq_append_getElem hil, List.take_succ_eq_append_getElem (by omega : i < k.length), heq]
     have : l[i] = k[i] := by simpa using h
     rw [this]
   ·simp (maxSteps := 2000000) (disch := first | omega | (simp only [AH.zN, AH.zP] <;> omega) | fail) only [amR Tryd.prog ro X, amS, seval, reduceCtorEq, ty3, ty4, ty9, ty29, ty39, ty116, ty118]
    have : l = k := by
     have hi2 : i = l.length := by simp at h; omega
     subst hi2
     rw [List.take_length] at heq
     rw [hlk, List.take_length] at heq
     exact heq
    simp [this, hE]
theorem sz_Record (A : AH) (hro : ro ≤ A.size) (x : TRecord) (cs : List Value) (F : List Nat) (h : Dat.rep A x cs F) (hn : Mk.bd x) (left : Int) (hz : 0 ≤ left ∧ left ≤ 2097152) :
 ACalls Tryd.prog ro X 122 [.agg cs.toArray, .int .i64 left] A (fun r A' => r = .ret (.int .i64 (szR left (Mk.sz x))) ∧ Ext A A') := by
 obtain ⟨s1, s2, G1, G2, rfl, rfl, h1, h2, z1⟩ := rep_Record.1 h
 have y1 := big_lt z1
 have hsz : Mk.sz x = (szL Mk.sz x.1) + (szL Mk.sz x.2.1 + (x.2.2.size)) := rfl
 refine ACalls.enterQ (rs := [.tmp 4]) Tryd.func122 rfl (by kernel_rfl) rfl ?_
 simp (maxSteps := 2000000) (disch := first | omega | (simp only [AH.zN, AH.zP] <;> omega) | fail) only [amR Tryd.prog ro X, amS, seval, reduceCtorEq, ty3, ty9, ty22, ty24, ty193, ty195, ty282]
 refine (sz_Program _ (by first | omega | (simp only [AH.zN, AH.zP] <;> omega)) x.1 _ _ (rep_Program.2 ⟨s1, _, rfl, rfl, h1.ext (by ((repeat' (first | exact Ext.refl _ | assumption | refine Ext.trans ?_ (Ext.new _ _) | refine Ext.put ?_ ?_ _ | refine Ext.trans ?_ (by assumption))) <;> (first | omega | (simp only [AH.zN, AH.zP] <;> omega))))⟩) hn.1 (left) (by omega)).mono ?_
 rintro r B1 ⟨rfl, hE1⟩
 have v1 := hE1.size
 try simp only [AH.zN, AH.zP] at v1
 have e1 : (Mk.sz x.1 : Nat) = szL Mk.sz x.1 := rfl
 rw [e1]
 by_cases c1 : left - (szL Mk.sz x.1 : Nat) < 0
 ·rw [szR_neg c1]
  simp (maxSteps := 2000000) (disch := first | omega | (simp only [AH.zN, AH.zP] <;> omega) | fail) only [amR Tryd.prog ro X, amS, seval, reduceCtorEq, ty3, ty9, ty22, ty24, ty193, ty195, ty282, hE1.get]
  exact ⟨(by rw [szR_neg (by omega : left - (Mk.sz x : Nat) < 0)]), by ((repeat' (first | exact Ext.refl _ | assumption | refine Ext.trans ?_ (Ext.new _ _) | refine Ext.put ?_ ?_ _ | refine Ext.trans ?_ (by assumption))) <;> (first | omega | (simp only [AH.zN, AH.zP] <;> omega)))⟩
 rw [szR_pos c1]
 simp (maxSteps := 2000000) (disch := first | omega | (simp only [AH.zN, AH.zP] <;> omega) | fail) only [amR Tryd.prog ro X, amS, seval, reduceCtorEq, ty3, ty9, ty22, ty24, ty193, ty195, ty282, hE1.get, c1]
 refine (szL_Glance _ (by first | omega | (simp only [AH.zN, AH.zP] <;> omega)) s2 _ _ (h2.ext (by ((repeat' (first | exact Ext.refl _ | assumption | refine Ext.trans ?_ (Ext.new _ _) | refine Ext.put ?_ ?_ _ | refine Ext.trans ?_ (by assumption))) <;> (first | omega | (simp only [AH.zN, AH.zP] <;> omega))))) hn.2.1 (left - (szL Mk.sz x.1 : Nat)) (by omega)).mono ?_
 rintro r B2 ⟨rfl, hE2⟩
 have v2 := hE2.size
 try simp only [AH.zN, AH.zP] at v2
 by_cases c2 : left - (szL Mk.sz x.1 : Nat) - (szL Mk.sz x.2.1 : Nat) < 0
 ·rw [szR_neg c2]
  simp (maxSteps := 2000000) (disch := first | omega | (simp only [AH.zN, AH.zP] <;> omega) | fail) only [amR Tryd.prog ro X, amS, seval, reduceCtorEq, ty3, ty9, ty22, ty24, ty193, ty195, ty282, hE1.get, hE2.get]
  exact ⟨(by rw [szR_neg (by omega : left - (Mk.sz x : Nat) < 0)]), by ((repeat' (first | exact Ext.refl _ | assumption | refine Ext.trans ?_ (Ext.new _ _) | refine Ext.put ?_ ?_ _ | refine Ext.trans ?_ (by assumption))) <;> (first | omega | (simp only [AH.zN, AH.zP] <;> omega)))⟩
 rw [szR_pos c2]
 simp (maxSteps := 2000000) (disch := first | omega | (simp only [AH.zN, AH.zP] <;> omega) | fail) only [amR Tryd.prog ro X, amS, seval, reduceCtorEq, ty3, ty9, ty22, ty24, ty193, ty195, ty282, hE1.get, hE2.get, c2]
 refine CondB.split (fun h => ?_) (fun h => ?_)
 ·have hc : left - (szL Mk.sz x.1 : Nat) - (szL Mk.sz x.2.1 : Nat) - (x.2.2.size : Nat) < 0 := by simpa using h
  simp (maxSteps := 2000000) (disch := first | omega | (simp only [AH.zN, AH.zP] <;> omega) | fail) only [amR Tryd.prog ro X, amS, seval, reduceCtorEq, ty3, ty9, ty22, ty24, ty193, ty195, ty282, hE1.get, hE2.get]
  exact ⟨(by rw [szR_neg (by omega : left - (Mk.sz x : Nat) < 0)]), by ((repeat' (first | exact Ext.refl _ | assumption | refine Ext.trans ?_ (Ext.new _ _) | refine Ext.put ?_ ?_ _ | refine Ext.trans ?_ (by assumption))) <;> (first | omega | (simp only [AH.zN, AH.zP] <;> omega)))⟩
 have c3 : ¬ (left - (szL Mk.sz x.1 : Nat) - (szL Mk.sz x.2.1 : Nat) - (x.2.2.size : Nat) < 0) := by simpa using h
 simp (maxSteps := 2000000) (disch := first | omega | (simp only [AH.zN, AH.zP] <;> omega) | fail) only [amR Tryd.prog ro X, amS, seval, reduceCtorEq, ty3, ty9, ty22, ty24, ty193, ty195, ty282, hE1.get, hE2.get]
 exact ⟨by rw [szR_pos (by omega : ¬ left - (Mk.sz x : Nat) < 0)]; congr 2 <;> omega, by ((repeat' (first | exact Ext.refl _ | assumption | refine Ext.trans ?_ (Ext.new _ _) | refine Ext.put ?_ ?_ _ | refine Ext.trans ?_ (by assumption))) <;> (first | omega | (simp only [AH.zN, AH.zP] <;> omega)))⟩
theorem szL_Record (A : AH) (hro : ro ≤ A.size) (s : Sl) (l : List TRecord) (F : List Nat) (hs : SlR A s l F) (hn : Mk.bd l) (left : Int) (hz : 0 ≤ left ∧ left ≤ 2097152) :
 ACalls Tryd.prog ro X 57 [s.v, .int .i64 left] A (fun r A' => r = .ret (.int .i64 (szR left (szL Mk.sz l))) ∧ Ext A A') := by
 have hl := hn.1
 have hw : Dat.w TRecord = 3 := rfl
 refine ACalls.enterQ (rs := [.tmp 4]) Tryd.func57 rfl (by kernel_rfl) rfl ?_
 simp (maxSteps := 2000000) (disch := first | omega | (simp only [AH.zN, AH.zP] <;> omega) | fail) only [amR Tryd.prog ro X, amS, seval, reduceCtorEq, ty3, ty9, ty24, ty34, ty193, ty195, hs.len]
 refine CondB.split (fun h => ?_) (fun h => ?_)
 ·simp (maxSteps := 2000000) (disch := first | omega | (simp only [AH.zN, AH.zP] <;> omega) | fail) only [amR Tryd.prog ro X, amS, seval, reduceCtorEq, ty3, ty9, ty24, ty34, ty193, ty195]
  have h2 : left - l.length < 0 := by simpa using h
  have := szL_length Mk.sz l
  exact ⟨by rw [szR_neg (by omega)], Ext.refl A⟩
 ·simp (maxSteps := 2000000) (disch := first | omega | (simp only [AH.zN, AH.zP] <;> omega) | fail) only [amR Tryd.prog ro X, amS, seval, reduceCtorEq, ty3, ty9, ty24, ty34, ty193, ty195]
  refine Wp.loopC (fun n e A' => Ext A A' ∧ e 0 = s.v ∧ ∃ i : Nat, i ≤ l.length ∧ n = l.length - i ∧ e 5 = .int .i64 i ∧ e 1 = .int .i64 (left - szL Mk.sz (l.take i) + i - l.length) ∧ 0 ≤ left - szL Mk.sz (l.take i) + i - l.length) (l.length - 0) ?_ ?_
  ·simp (maxSteps := 2000000) (disch := first | omega | (simp only [AH.zN, AH.zP] <;> omega) | fail) only [amV, amH, amQ, amL, amN Tryd.prog, amS, seval, reduceCtorEq, ty3, ty9, ty24, ty34, ty193, ty195]
   refine ⟨Ext.refl A, 0, by omega, rfl, rfl, ?_⟩
   have : 0 ≤ left - l.length := by simpa using h
   simp only [List.take_zero, szL_nil]
   exact ⟨by congr 1 <;> omega, by omega⟩
  ·rintro n e A' ⟨hE, h0, i, hi, rfl, h5, h1, hle⟩
   have v1 := hE.size
   simp (maxSteps := 2000000) (disch := first | omega | (simp only [AH.zN, AH.zP] <;> omega) | fail) only [amR Tryd.prog ro X, amS, seval, reduceCtorEq, ty3, ty9, ty24, ty34, ty193, ty195, h0, h5, hs.len]
   refine CondB.split (fun h => ?_) (fun h => ?_)
   ·have hil : i < l.length := by simp at h; omega
    obtain ⟨n1, b1, m1, i1, cs, Fi, c1, q1, _⟩ := (hs.ext hE).row hil
    rw [aRow_eq, hw] at c1
    have hst := szL_take_succ Mk.sz l i hil
    have hge := szL_take_le Mk.sz l (i + 1)
    have hge0 := szL_take_le Mk.sz l i
    have hti := szL_length Mk.sz (l.take i)
    rw [List.length_take, Nat.min_eq_left hi] at hti
    simp (maxSteps := 2000000) (disch := first | omega | (simp only [AH.zN, AH.zP] <;> omega) | fail) only [amR Tryd.prog ro X, amS, seval, reduceCtorEq, ty3, ty9, ty24, ty34, ty193, ty195, h0, h1, h5, n1, c1]
    refine (sz_Record _ (by omega) l[i] cs Fi q1 (hn.2 _ (List.getElem_mem hil)) _ ⟨hle, by omega⟩).mono ?_
    rintro r A2 ⟨rfl, hE2⟩
    by_cases hc : left - szL Mk.sz (l.take i) + i - l.length - (Mk.sz l[i] : Nat) < 0
    ·rw [szR_neg hc]
     simp (maxSteps := 2000000) (disch := first | omega | (simp only [AH.zN, AH.zP] <;> omega) | fail) only [amR Tryd.prog ro X, amS, seval, reduceCtorEq, ty3, ty9, ty24, ty34, ty193, ty195]
     exact ⟨by rw [szR_neg (by omega)], hE.trans hE2⟩
    ·rw [szR_pos hc]
     simp (maxSteps := 2000000) (disch := first | omega | (simp only [AH.zN, AH.zP] <;> omega) | fail) only [amR Tryd.prog ro X, amS, seval, reduceCtorEq, ty3, ty9, ty24, ty34, ty193, ty195, h0, h5, hc]
     exact ⟨l.length - (i + 1), by omega, hE.trans hE2, i + 1, by omega, rfl, rfl, by congr 1 <;> omega, by omega⟩
   ·have hil : i = l.length := by simp at h; omega
    subst hil
    rw [List.take_length] at h1 hle
    simp (maxSteps := 2000000) (disch := first | omega | (simp only [AH.zN, AH.zP] <;> omega) | fail) only [amR Tryd.prog ro X, amS, seval, reduceCtorEq, ty3, ty9, ty24, ty34, ty193, ty195, h1]
    exact ⟨by rw [szR_pos (by omega)]; congr 2; omega, hE⟩
theorem to_Store (A : AH) (hro : ro ≤ A.size) (x : TStore) (cs : List Value) (F : List Nat) (h : Dat.rep A x cs F) (hz : Mk.sz x < 4294967296) :
 ACalls Tryd.prog ro X 18 [.agg cs.toArray] A (fun r A' => ∃ cs' F', r = .ret (.agg cs'.toArray) ∧ Dat.rep A' x cs' F' ∧ Fresh A F' A' ∧ Ext A A') := by
 obtain ⟨s1, s2, G1, G2, rfl, rfl, h1, h2⟩ := rep_Store.1 h
 have hsz : Mk.sz x = 0 + (szL Mk.sz x.2.1 + (szL Mk.sz x.2.2)) := rfl
 refine ACalls.enterQ (rs := [.cell 2 41]) Tryd.func18 rfl (by kernel_rfl) rfl ?_
 simp (maxSteps := 2000000) (disch := first | omega | (simp only [AH.zN, AH.zP] <;> omega) | fail) only [amR Tryd.prog ro X, amS, seval, reduceCtorEq, ty3, ty9, ty33, ty34, ty36, ty39, ty41, ty118, ty195]
 refine (toL_str _ (by first | omega | (simp only [AH.zN, AH.zP] <;> omega)) s1 _ _ (h1.ext (by ((repeat' (first | exact Ext.refl _ | assumption | refine Ext.trans ?_ (Ext.new _ _) | refine Ext.put ?_ ?_ _ | refine Ext.trans ?_ (by assumption))) <;> (first | omega | (simp only [AH.zN, AH.zP] <;> omega))))) (by omega)).mono ?_
 rintro r B1 ⟨t1, H1, rfl, q1, f1, hE1⟩
 have v1 := hE1.size
 try simp only [AH.zN, AH.zP] at v1
 simp (maxSteps := 2000000) (disch := first | omega | (simp only [AH.zN, AH.zP] <;> omega) | fail) only [amR Tryd.prog ro X, amS, seval, reduceCtorEq, ty3, ty9, ty33, ty34, ty36, ty39, ty41, ty118, ty195, hE1.get]
 refine (toL_Record _ (by first | omega | (simp only [AH.zN, AH.zP] <;> omega)) s2 _ _ (h2.ext (by ((repeat' (first | exact Ext.refl _ | assumption | refine Ext.trans ?_ (Ext.new _ _) | refine Ext.put ?_ ?_ _ | refine Ext.trans ?_ (by assumption))) <;> (first | omega | (simp only [AH.zN, AH.zP] <;> omega))))) (by omega)).mono ?_
 rintro r B2 ⟨t2, H2, rfl, q2, f2, hE2⟩
 have v2 := hE2.size
 try simp only [AH.zN, AH.zP] at v2
 simp (maxSteps := 2000000) (disch := first | omega | (simp only [AH.zN, AH.zP] <;> omega) | fail) only [amR Tryd.prog ro X, amS, seval, reduceCtorEq, ty3, ty9, ty33, ty34, ty36, ty39, ty41, ty118, ty195, hE1.get, hE2.get]
 exact ⟨_, _, rfl, rep_Store.2 ⟨t1, t2, _, _, rfl, rfl, q1.low f1.lo (by ((repeat' (first | exact Low.refl _ _ | assumption | refine Low.new ?_ _ | refine Low.put ?_ ?_ _ | refine Low.trans ?_ (Ext.low (by assumption) _))) <;> (first | omega | (simp only [AH.zN, AH.zP] <;> omega)))), q2.low f2.lo (by ((repeat' (first | exact Low.refl _ _ | assumption | refine Low.new ?_ _ | refine Low.put ?_ ?_ _ | refine Low.trans ?_ (Ext.low (by assumption) _))) <;> (first | omega | (simp only [AH.zN, AH.zP] <;> omega))))⟩, (f1.mono (by first | omega | (simp only [AH.zN, AH.zP] <;> omega)) (Nat.le_refl _)).append (f2.mono (by first | omega | (simp only [AH.zN, AH.zP] <;> omega)) (by first | omega | (simp only [AH.zN, AH.zP] <;> omega))) (by first | omega | (simp only [AH.zN, AH.zP] <;> omega)) (by first | omega | (simp only [AH.zN, AH.zP] <;> omega)), by ((repeat' (first | exact Ext.refl _ | assumption | refine Ext.trans ?_ (Ext.new _ _) | refine Ext.put ?_ ?_ _ | refine Ext.trans ?_ (by assumption))) <;> (first | omega | (simp only [AH.zN, AH.zP] <;> omega)))⟩
theorem eq_Store (A : AH) (hro : ro ≤ A.size) (x y : TStore) (cs ds : List Value) (F F' : List Nat) (h : Dat.rep A x cs F) (h' : Dat.rep A y ds F') (hz : Mk.sz x < 4294967296) :
 ACalls Tryd.prog ro X 20 [.agg cs.toArray, .agg ds.toArray] A (fun r A' => r = .ret (.bool (decide (x = y))) ∧ Ext A A') := by
 obtain ⟨s1, s2, G1, G2, rfl, rfl, h1, h2⟩ := rep_Store.1 h
 obtain ⟨s1', s2', G1', G2', rfl, rfl, h1', h2'⟩ := rep_Store.1 h'
 have hsz : Mk.sz x = 0 + (szL Mk.sz x.2.1 + (szL Mk.sz x.2.2)) := rfl
 refine ACalls.enterQ (rs := [.tmp 4]) Tryd.func20 rfl (by kernel_rfl) rfl ?_
 simp (maxSteps := 2000000) (disch := first | omega | (simp only [AH.zN, AH.zP] <;> omega) | fail) only [amR Tryd.prog ro X, amS, seval, reduceCtorEq, ty3, ty4, ty9, ty33, ty39, ty41, ty118]
 refine CondB.split (fun h => ?_) (fun h => ?_)
 ·have hc : ¬ x.1 = y.1 := by simpa using h
  simp (maxSteps := 2000000) (disch := first | omega | (simp only [AH.zN, AH.zP] <;> omega) | fail) only [amR Tryd.prog ro X, amS, seval, reduceCtorEq, ty3, ty4, ty9, ty33, ty39, ty41, ty118]
  exact ⟨by rw [decide_eq_false (fun e => hc (by rw [e]))], by ((repeat' (first | exact Ext.refl _ | assumption | refine Ext.trans ?_ (Ext.new _ _) | refine Ext.put ?_ ?_ _ | refine Ext.trans ?_ (by assumption))) <;> (first | omega | (simp only [AH.zN, AH.zP] <;> omega)))⟩
 have c1 : x.1 = y.1 := by simpa using h
 simp (maxSteps := 2000000) (disch := first | omega | (simp only [AH.zN, AH.zP] <;> omega) | fail) only [amR Tryd.prog ro X, amS, seval, reduceCtorEq, ty3, ty4, ty9, ty33, ty39, ty41, ty118]
 refine (eqL_str _ (by first | omega | (simp only [AH.zN, AH.zP] <;> omega)) s1 s1' _ _ _ _ (h1.ext (by ((repeat' (first | exact Ext.refl _ | assumption | refine Ext.trans ?_ (Ext.new _ _) | refine Ext.put ?_ ?_ _ | refine Ext.trans ?_ (by assumption))) <;> (first | omega | (simp only [AH.zN, AH.zP] <;> omega))))) (h1'.ext (by ((repeat' (first | exact Ext.refl _ | assumption | refine Ext.trans ?_ (Ext.new _ _) | refine Ext.put ?_ ?_ _ | refine Ext.trans ?_ (by assumption))) <;> (first | omega | (simp only [AH.zN, AH.zP] <;> omega))))) (by omega)).mono ?_
 rintro r B2 ⟨rfl, hE2⟩
 have v2 := hE2.size
 try simp only [AH.zN, AH.zP] at v2
 simp (maxSteps := 2000000) (disch := first | omega | (simp only [AH.zN, AH.zP] <;> omega) | fail) only [amR Tryd.prog ro X, amS, seval, reduceCtorEq, ty3, ty4, ty9, ty33, ty39, ty41, ty118, hE2.get]
 refine CondB.split (fun h => ?_) (fun h => ?_)
 ·have hc : ¬ x.2.1 = y.2.1 := by simpa using h
  simp (maxSteps := 2000000) (disch := first | omega | (simp only [AH.zN, AH.zP] <;> omega) | fail) only [amR Tryd.prog ro X, amS, seval, reduceCtorEq, ty3, ty4, ty9, ty33, ty39, ty41, ty118, hE2.get]
  exact ⟨by rw [decide_eq_false (fun e => hc (by rw [e]))], by ((repeat' (first | exact Ext.refl _ | assumption | refine Ext.trans ?_ (Ext.new _ _) | refine Ext.put ?_ ?_ _ | refine Ext.trans ?_ (by assumption))) <;> (first | omega | (simp only [AH.zN, AH.zP] <;> omega)))⟩
 have c2 : x.2.1 = y.2.1 := by simpa using h
 simp (maxSteps := 2000000) (disch := first | omega | (simp only [AH.zN, AH.zP] <;> omega) | fail) only [amR Tryd.prog ro X, amS, seval, reduceCtorEq, ty3, ty4, ty9, ty33, ty39, ty41, ty118, hE2.get]
 refine (eqL_Record _ (by first | omega | (simp only [AH.zN, AH.zP] <;> omega)) s2 s2' _ _ _ _ (h2.ext (by ((repeat' (first | exact Ext.refl _ | assumption | refine Ext.trans ?_ (Ext.new _ _) | refine Ext.put ?_ ?_ _ | refine Ext.trans ?_ (by assumption))) <;> (first | omega | (simp only [AH.zN, AH.zP] <;> omega))))) (h2'.ext (by ((repeat' (first | exact Ext.refl _ | assumption | refine Ext.trans ?_ (Ext.new _ _) | refine Ext.put ?_ ?_ _ | refine Ext.trans ?_ (by assumption))) <;> (first | omega | (simp only [AH.zN, AH.zP] <;> omega))))) (by omega)).mono ?_
 rintro r B3 ⟨rfl, hE3⟩
 have v3 := hE3.size
 try simp only [AH.zN, AH.zP] at v3
 simp (maxSteps := 2000000) (disch := first | omega | (simp only [AH.zN, AH.zP] <;> omega) | fail) only [amR Tryd.prog ro X, amS, seval, reduceCtorEq, ty3, ty4, ty9, ty33, ty39, ty41, ty118, hE2.get, hE3.get]
 refine CondB.split (fun h => ?_) (fun h => ?_)
 ·have hc : ¬ x.2.2 = y.2.2 := by simpa using h
  simp (maxSteps := 2000000) (disch := first | omega | (simp only [AH.zN, AH.zP] <;> omega) | fail) only [amR Tryd.prog ro X, amS, seval, reduceCtorEq, ty3, ty4, ty9, ty33, ty39, ty41, ty118, hE2.get, hE3.get]
  exact ⟨by rw [decide_eq_false (fun e => hc (by rw [e]))], by ((repeat' (first | exact Ext.refl _ | assumption | refine Ext.trans ?_ (Ext.new _ _) | refine Ext.put ?_ ?_ _ | refine Ext.trans ?_ (by assumption))) <;> (first | omega | (simp only [AH.zN, AH.zP] <;> omega)))⟩
 have c3 : x.2.2 = y.2.2 := by simpa using h
 simp (maxSteps := 2000000) (disch := first | omega | (simp only [AH.zN, AH.zP] <;> omega) | fail) only [amR Tryd.prog ro X, amS, seval, reduceCtorEq, ty3, ty4, ty9, ty33, ty39, ty41, ty118, hE2.get, hE3.get]
 exact ⟨by rw [decide_eq_true (Prod.ext c1 (Prod.ext c2 (c3)))], by ((repeat' (first | exact Ext.refl _ | assumption | refine Ext.trans ?_ (Ext.new _ _) | refine Ext.put ?_ ?_ _ | refine Ext.trans ?_ (by assumption))) <;> (first | omega | (simp only [AH.zN, AH.zP] <;> omega)))⟩
theorem sz_Store (A : AH) (hro : ro ≤ A.size) (x : TStore) (cs : List Value) (F : List Nat) (h : Dat.rep A x cs F) (hn : Mk.bd x) (left : Int) (hz : 0 ≤ left ∧ left ≤ 2097152) :
 ACalls Tryd.prog ro X 16 [.agg cs.toArray, .int .i64 left] A (fun r A' => r = .ret (.int .i64 (szR left (Mk.sz x))) ∧ Ext A A') := by
 obtain ⟨s1, s2, G1, G2, rfl, rfl, h1, h2⟩ := rep_Store.1 h
 have hsz : Mk.sz x = 0 + (szL Mk.sz x.2.1 + (szL Mk.sz x.2.2)) := rfl
 refine ACalls.enterQ (rs := [.tmp 4]) Tryd.func16 rfl (by kernel_rfl) rfl ?_
 simp (maxSteps := 2000000) (disch := first | omega | (simp only [AH.zN, AH.zP] <;> omega) | fail) only [amR Tryd.prog ro X, amS, seval, reduceCtorEq, ty3, ty9, ty33, ty34, ty36, ty195]
 refine (szL_str _ (by first | omega | (simp only [AH.zN, AH.zP] <;> omega)) s1 _ _ (h1.ext (by ((repeat' (first | exact Ext.refl _ | assumption | refine Ext.trans ?_ (Ext.new _ _) | refine Ext.put ?_ ?_ _ | refine Ext.trans ?_ (by assumption))) <;> (first | omega | (simp only [AH.zN, AH.zP] <;> omega))))) hn.2.1 (left) (by omega)).mono ?_
 rintro r B1 ⟨rfl, hE1⟩
 have v1 := hE1.size
 try simp only [AH.zN, AH.zP] at v1
 by_cases c1 : left - (szL Mk.sz x.2.1 : Nat) < 0
 ·rw [szR_neg c1]
  simp (maxSteps := 2000000) (disch := first | omega | (simp only [AH.zN, AH.zP] <;> omega) | fail) only [amR Tryd.prog ro X, amS, seval, reduceCtorEq, ty3, ty9, ty33, ty34, ty36, ty195, hE1.get]
  exact ⟨(by rw [szR_neg (by omega : left - (Mk.sz x : Nat) < 0)]), by ((repeat' (first | exact Ext.refl _ | assumption | refine Ext.trans ?_ (Ext.new _ _) | refine Ext.put ?_ ?_ _ | refine Ext.trans ?_ (by assumption))) <;> (first | omega | (simp only [AH.zN, AH.zP] <;> omega)))⟩
 rw [szR_pos c1]
 simp (maxSteps := 2000000) (disch := first | omega | (simp only [AH.zN, AH.zP] <;> omega) | fail) only [amR Tryd.prog ro X, amS, seval, reduceCtorEq, ty3, ty9, ty33, ty34, ty36, ty195, hE1.get, c1]
 refine (szL_Record _ (by first | omega | (simp only [AH.zN, AH.zP] <;> omega)) s2 _ _ (h2.ext (by ((repeat' (first | exact Ext.refl _ | assumption | refine Ext.trans ?_ (Ext.new _ _) | refine Ext.put ?_ ?_ _ | refine Ext.trans ?_ (by assumption))) <;> (first | omega | (simp only [AH.zN, AH.zP] <;> omega))))) hn.2.2 (left - (szL Mk.sz x.2.1 : Nat)) (by omega)).mono ?_
 rintro r B2 ⟨rfl, hE2⟩
 have v2 := hE2.size
 try simp only [AH.zN, AH.zP] at v2
 by_cases c2 : left - (szL Mk.sz x.2.1 : Nat) - (szL Mk.sz x.2.2 : Nat) < 0
 ·rw [szR_neg c2]
  simp (maxSteps := 2000000) (disch := first | omega | (simp only [AH.zN, AH.zP] <;> omega) | fail) only [amR Tryd.prog ro X, amS, seval, reduceCtorEq, ty3, ty9, ty33, ty34, ty36, ty195, hE1.get, hE2.get]
  exact ⟨(by rw [szR_neg (by omega : left - (Mk.sz x : Nat) < 0)]), by ((repeat' (first | exact Ext.refl _ | assumption | refine Ext.trans ?_ (Ext.new _ _) | refine Ext.put ?_ ?_ _ | refine Ext.trans ?_ (by assumption))) <;> (first | omega | (simp only [AH.zN, AH.zP] <;> omega)))⟩
 rw [szR_pos c2]
 simp (maxSteps := 2000000) (disch := first | omega | (simp only [AH.zN, AH.zP] <;> omega) | fail) only [amR Tryd.prog ro X, amS, seval, reduceCtorEq, ty3, ty9, ty33, ty34, ty36, ty195, hE1.get, hE2.get, c2]
 exact ⟨by rw [szR_pos (by omega : ¬ left - (Mk.sz x : Nat) < 0)]; congr 2 <;> omega, by ((repeat' (first | exact Ext.refl _ | assumption | refine Ext.trans ?_ (Ext.new _ _) | refine Ext.put ?_ ?_ _ | refine Ext.trans ?_ (by assumption))) <;> (first | omega | (simp only [AH.zN, AH.zP] <;> omega)))⟩
end Go.Proofs.YtjlbcofopapajaaDoor.Amu.Law
