import Derived.Test.YtjlbcofopapajaaDoorAmuTy
import Derived.Test.YtjlbcofopapajaaDoorAmTX
import Derived.Test.YtjlbcofopapajaaDoorAmuStore
namespace Go.Proofs.YtjlbcofopapajaaDoor.Amu.Space
open Go Go.AM Go.Proofs
set_option linter.all false
open Ty
variable {ro : Nat} {X : FuncId → List Value → AH → ARes → AH → Prop}
set_option maxRecDepth 10000
theorem l3Target_a (A : AH) (hro : ro ≤ A.size) (s1 s2 : Sl) (x : TSpace) (F2 : List Nat) (h2 : SlR A s2 x.2 F2) (n : ByteArray) (hl : x.2.length < 1152921504606846976) :
 ACalls Tryd.prog ro X 135 [.agg #[s1.v, s2.v], .string n] A (fun r A' => r = .ret (.int .i64 (placeOf n x.2)) ∧ Ext A A') := by
 refine ACalls.enterQ (rs := [.tmp 4]) Tryd.func135 rfl (by kernel_rfl) rfl ?_
 have hl2 := h2.len
 simp (disch := first | omega | fail) only [amR Tryd.prog ro X, amS, seval, reduceCtorEq, ty3, ty9, ty29, ty50, ty51, ty53, ty141]
 refine Wp.loopC (fun k e A' => A' = A.new (.cells [s1.v, s2.v] 2) ∧ e 1 = .string n ∧ e 2 = .pointer (some ⟨A.size, 0, none⟩) ∧ ∃ i : Nat, i ≤ x.2.length ∧ k = x.2.length - i ∧ e 5 = .int .i64 i ∧ ∀ y ∈ x.2.take i, y.1 ≠ n) (x.2.length - 0) ?_ ?_
 ·simp (disch := first | omega | fail) only [amV, amH, amQ, amL, amN Tryd.prog, amS, seval, reduceCtorEq, ty3, ty9, ty29, ty50, ty51, ty53, ty141]
  exact ⟨0, by omega, rfl, rfl, by simp⟩
 ·rintro k e A' ⟨rfl, g1, g2, i, hi, rfl, g5, hall⟩
  simp (disch := first | omega | fail) only [amR Tryd.prog ro X, amS, seval, reduceCtorEq, ty3, ty9, ty29, ty50, ty51, ty53, ty141, g1, g2, g5, hl2]
  refine CondB.split (fun h => ?_) (fun h => ?_)
  ·have hil : i < x.2.length := by simpa using h
   obtain ⟨c, t, G, n1, b1, i1, c1, r0, _⟩ := (h2.ext (Ext.new A (.cells [s1.v, s2.v] 2))).target hil
   by_cases hn : x.2[i].1 = n
   ·simp (disch := first | omega | fail) only [amR Tryd.prog ro X, amS, seval, reduceCtorEq, ty3, ty9, ty29, ty50, ty51, ty53, ty141, g1, g2, g5, n1, c1, r0, hn]
    refine ⟨?_, Ext.new _ _⟩
    rw [placeOf_some hil hall hn]
   ·simp (disch := first | omega | fail) only [amR Tryd.prog ro X, amS, seval, reduceCtorEq, ty3, ty9, ty29, ty50, ty51, ty53, ty141, g1, g2, g5, n1, c1, r0, hn]
    exact ⟨x.2.length - (i + 1), by omega, i + 1, by omega, rfl, by simp, (all_take_succ hil).2 ⟨hall, hn⟩⟩
  ·have hil : i = x.2.length := by simp at h; omega
   subst hil
   rw [List.take_length] at hall
   simp (disch := first | omega | fail) only [amR Tryd.prog ro X, amS, seval, reduceCtorEq, ty3, ty9, ty29, ty50, ty51, ty53, ty141]
   refine ⟨?_, Ext.new _ _⟩
   rw [placeOf_none hall]
theorem specCheck_a (A : AH) (hro : ro ≤ A.size) (s1 s2 : Sl) (x : TSpace) (F1 F2 : List Nat) (h1 : SlR A s1 x.1 F1) (h2 : SlR A s2 x.2 F2) (hl1' : x.1.length < 1152921504606846976) (hl2' : x.2.length < 1152921504606846976) (hb : ∀ t ∈ x.2, t.2.length < 281474976710656) :
 ACalls Tryd.prog ro X 71 [.agg #[s1.v, s2.v]] A (fun r A' => r = .ret (.int .i64 (spaceCode x)) ∧ Ext A A') := by
 refine ACalls.enterQ (rs := [.tmp 2]) Tryd.func71 rfl (by kernel_rfl) rfl ?_
 have hl1 := h1.len
 have hl2 := h2.len
 by_cases q1 : (200 : Int) < x.1.length + x.2.length
 ·simp (disch := first | omega | fail) only [amR Tryd.prog ro X, amS, seval, reduceCtorEq, ty3, ty4, ty9, ty27, ty29, ty50, ty51, ty53, ty129, ty141, hl1, hl2, q1]
  exact ⟨by rw [spaceCode, if_pos (by omega)], (by ((repeat' (first | exact Ext.refl _ | assumption | refine Ext.trans ?_ (Ext.new _ _) | refine Ext.put ?_ ?_ _ | refine Ext.trans ?_ (by assumption))) <;> (first | omega | (simp only [AH.zN, AH.zP] <;> omega))))⟩
 have q1' : ¬ 200 < x.1.length + x.2.length := by omega
 simp (disch := first | omega | fail) only [amR Tryd.prog ro X, amS, seval, reduceCtorEq, ty3, ty4, ty9, ty27, ty29, ty50, ty51, ty53, ty129, ty141, hl1, hl2, q1]
 refine Wp.loopC (fun k e A' => Ext (A.new (.cells [s1.v, s2.v] 2)) A' ∧ e 1 = .pointer (some ⟨A.size, 0, none⟩) ∧ e 4 = .int .i64 0 ∧ ∃ i : Nat, i ≤ x.1.length ∧ k = x.1.length + 1 - i ∧ e 5 = .int .i64 i ∧ ∀ y ∈ x.1.take i, NameOk y.1) (x.1.length + 1 - 0) ?_ ?_
 ·simp (disch := first | omega | fail) only [amV, amH, amQ, amL, amN Tryd.prog, amS, seval, reduceCtorEq, ty3, ty4, ty9, ty27, ty29, ty50, ty51, ty53, ty129, ty141]
  exact ⟨Ext.refl _, 0, by omega, rfl, rfl, by simp⟩
 ·rintro k e A' ⟨hE, g1, g4, i, hi, rfl, g5, hall⟩
  have hz := hE.size
  simp only [AH.zN] at hz
  have hE0 : Ext A A' := (Ext.new A _).trans hE
  simp (maxSteps := 2000000) (disch := first | omega | (simp only [AH.zN, AH.zP] <;> omega) | fail) only [amR Tryd.prog ro X, amS, seval, reduceCtorEq, ty3, ty4, ty9, ty27, ty29, ty50, ty51, ty53, ty129, ty141, g1, g4, g5, hE.get, hl1]
  refine CondB.split (fun h => ?_) (fun h => ?_)
  ·have hil : i < x.1.length := by simpa using h
   obtain ⟨c, n1, b1, i1, c1, r0, r1, _, z1, z2⟩ := (h1.ext hE0).source hil
   simp (maxSteps := 2000000) (disch := first | omega | (simp only [AH.zN, AH.zP] <;> omega) | fail) only [amR Tryd.prog ro X, amS, seval, reduceCtorEq, ty3, ty4, ty9, ty27, ty29, ty50, ty51, ty53, ty129, ty141, g1, g4, g5, hE.get, n1, c1, r0]
   refine (Store.spec.l2NameOk_a _ x.1[i].1).mono ?_
   rintro r A3 ⟨rfl, rfl⟩
   by_cases hn : NameOk x.1[i].1
   ·simp (disch := first | omega | fail) only [amR Tryd.prog ro X, amS, seval, reduceCtorEq, ty3, ty4, ty9, ty27, ty29, ty50, ty51, ty53, ty129, ty141, g1, g4, g5, hn]
    exact ⟨x.1.length + 1 - (i + 1), by omega, hE, i + 1, by omega, rfl, by simp, (all_take_succ hil).2 ⟨hall, hn⟩⟩
   ·simp (disch := first | omega | fail) only [amR Tryd.prog ro X, amS, seval, reduceCtorEq, ty3, ty4, ty9, ty27, ty29, ty50, ty51, ty53, ty129, ty141, g1, g4, g5, hn]
    exact ⟨by rw [spaceCode, if_neg q1', if_pos]; exact fun h => hn (h.1 _ (List.getElem_mem hil)), (by ((repeat' (first | exact Ext.refl _ | assumption | refine Ext.trans ?_ (Ext.new _ _) | refine Ext.put ?_ ?_ _ | refine Ext.trans ?_ (by assumption))) <;> (first | omega | (simp only [AH.zN, AH.zP] <;> omega))))⟩
  ·have hil : i = x.1.length := by simp at h; omega
   subst hil
   rw [List.take_length] at hall
   have hn1 := hall
   clear hall hi
   simp (disch := first | omega | fail) only [amR Tryd.prog ro X, amS, seval, reduceCtorEq, ty3, ty4, ty9, ty27, ty29, ty50, ty51, ty53, ty129, ty141, g1, g4]
   refine Wp.loopC (fun k e A' => Ext (A.new (.cells [s1.v, s2.v] 2)) A' ∧ e 1 = .pointer (some ⟨A.size, 0, none⟩) ∧ e 4 = .int .i64 0 ∧ ∃ i : Nat, i ≤ x.2.length ∧ k = x.2.length + 1 - i ∧ e 6 = .int .i64 i ∧ ∀ y ∈ x.2.take i, NameOk y.1) (x.2.length + 1 - 0) ?_ ?_
   ·simp (disch := first | omega | fail) only [amV, amH, amQ, amL, amN Tryd.prog, amS, seval, reduceCtorEq, ty3, ty4, ty9, ty27, ty29, ty50, ty51, ty53, ty129, ty141, g1, g4]
    exact ⟨hE, 0, by omega, rfl, rfl, by simp⟩
   ·rintro k e A' ⟨hE, g1, g4, i, hi, rfl, g5, hall⟩
    have hz := hE.size
    simp only [AH.zN] at hz
    have hE0 : Ext A A' := (Ext.new A _).trans hE
    simp (maxSteps := 2000000) (disch := first | omega | (simp only [AH.zN, AH.zP] <;> omega) | fail) only [amR Tryd.prog ro X, amS, seval, reduceCtorEq, ty3, ty4, ty9, ty27, ty29, ty50, ty51, ty53, ty129, ty141, g1, g4, g5, hE.get, hl2]
    refine CondB.split (fun h => ?_) (fun h => ?_)
    ·have hil : i < x.2.length := by simpa using h
     obtain ⟨c, t, G, n1, b1, i1, c1, r0, r1, _, z1, ht, _⟩ := (h2.ext hE0).target hil
     simp (maxSteps := 2000000) (disch := first | omega | (simp only [AH.zN, AH.zP] <;> omega) | fail) only [amR Tryd.prog ro X, amS, seval, reduceCtorEq, ty3, ty4, ty9, ty27, ty29, ty50, ty51, ty53, ty129, ty141, g1, g4, g5, hE.get, n1, c1, r0]
     refine (Store.spec.l2NameOk_a _ x.2[i].1).mono ?_
     rintro r A3 ⟨rfl, rfl⟩
     by_cases hn : NameOk x.2[i].1
     ·simp (disch := first | omega | fail) only [amR Tryd.prog ro X, amS, seval, reduceCtorEq, ty3, ty4, ty9, ty27, ty29, ty50, ty51, ty53, ty129, ty141, g1, g4, g5, hn]
      exact ⟨x.2.length + 1 - (i + 1), by omega, hE, i + 1, by omega, rfl, by simp, (all_take_succ hil).2 ⟨hall, hn⟩⟩
     ·simp (disch := first | omega | fail) only [amR Tryd.prog ro X, amS, seval, reduceCtorEq, ty3, ty4, ty9, ty27, ty29, ty50, ty51, ty53, ty129, ty141, g1, g4, g5, hn]
      exact ⟨by rw [spaceCode, if_neg q1', if_pos]; exact fun h => hn (h.2 _ (List.getElem_mem hil)), (by ((repeat' (first | exact Ext.refl _ | assumption | refine Ext.trans ?_ (Ext.new _ _) | refine Ext.put ?_ ?_ _ | refine Ext.trans ?_ (by assumption))) <;> (first | omega | (simp only [AH.zN, AH.zP] <;> omega))))⟩
    ·have hil : i = x.2.length := by simp at h; omega
     subst hil
     rw [List.take_length] at hall
     have hn2 := hall
     clear hall hi
     simp (disch := first | omega | fail) only [amR Tryd.prog ro X, amS, seval, reduceCtorEq, ty3, ty4, ty9, ty27, ty29, ty50, ty51, ty53, ty129, ty141, g1, g4]
     refine Wp.loopC (fun k e A' => Ext (A.new (.cells [s1.v, s2.v] 2)) A' ∧ e 1 = .pointer (some ⟨A.size, 0, none⟩) ∧ e 4 = .int .i64 0 ∧ ∃ i : Nat, 1 ≤ i ∧ (i = 1 ∨ i ≤ x.1.length) ∧ k = x.1.length + 1 - i ∧ e 7 = .int .i64 i ∧ Asc ((x.1.take i).map (·.1))) (x.1.length + 1 - 1) ?_ ?_
     ·simp (disch := first | omega | fail) only [amV, amH, amQ, amL, amN Tryd.prog, amS, seval, reduceCtorEq, ty3, ty4, ty9, ty27, ty29, ty50, ty51, ty53, ty129, ty141, g1, g4]
      exact ⟨hE, 1, by omega, .inl rfl, rfl, rfl, by cases x.1 <;> simp [Asc]⟩
     ·rintro k e A' ⟨hE, g1, g4, i, hi, hi2, rfl, g5, hall⟩
      have hz := hE.size
      simp only [AH.zN] at hz
      have hE0 : Ext A A' := (Ext.new A _).trans hE
      simp (maxSteps := 2000000) (disch := first | omega | (simp only [AH.zN, AH.zP] <;> omega) | fail) only [amR Tryd.prog ro X, amS, seval, reduceCtorEq, ty3, ty4, ty9, ty27, ty29, ty50, ty51, ty53, ty129, ty141, g1, g4, g5, hE.get, hl1]
      refine CondB.split (fun h => ?_) (fun h => ?_)
      ·have hil : i < x.1.length := by simpa using h
       obtain ⟨c, n1, b1, i1, c1, r0, _⟩ := (h1.ext hE0).source hil
       obtain ⟨c', n2, b2, i2, c2, s0, _⟩ := (h1.ext hE0).source (i := i - 1) (by omega)
       rw [c1] at c2; cases c2
       have hi1 : ((i : Int) - 1).toNat = i - 1 := by omega
       refine Wp.runG [] (by kernel_rfl) (.inl (by kernel_rfl)) ?_
       have hst := ascStep (·.1) hil
       by_cases hn : slt x.1[i - 1].1 x.1[i].1
       ·have u : Op.bytesLess (x.1[i - 1]).1.toList (x.1[i]).1.toList = true := hn
        simp (maxSteps := 2000000) (disch := first | omega | (simp only [AH.zN, AH.zP] <;> omega) | fail) only [amR Tryd.prog ro X, amS, seval, reduceCtorEq, ty3, ty4, ty9, ty27, ty29, ty50, ty51, ty53, ty129, ty141, g1, g4, g5, hE.get, n1, c1, r0, s0, hi1, u]
        exact ⟨x.1.length + 1 - (i + 1), by omega, hE, i + 1, by omega, by omega, rfl, by simp, hst.2 ⟨hall, .inr hn⟩⟩
       ·have u : Op.bytesLess (x.1[i - 1]).1.toList (x.1[i]).1.toList = false := by simpa [slt] using hn
        simp (maxSteps := 2000000) (disch := first | omega | (simp only [AH.zN, AH.zP] <;> omega) | fail) only [amR Tryd.prog ro X, amS, seval, reduceCtorEq, ty3, ty4, ty9, ty27, ty29, ty50, ty51, ty53, ty129, ty141, g1, g4, g5, hE.get, n1, c1, r0, s0, hi1, u]
        refine ⟨?_, (by ((repeat' (first | exact Ext.refl _ | assumption | refine Ext.trans ?_ (Ext.new _ _) | refine Ext.put ?_ ?_ _ | refine Ext.trans ?_ (by assumption))) <;> (first | omega | (simp only [AH.zN, AH.zP] <;> omega))))⟩
        rw [spaceCode, if_neg q1', if_neg (fun h => h ⟨hn1, hn2⟩), if_pos]
        intro h
        have hh := (hst.1 (Asc.takeMap _ h)).2
        rcases hh with hh | hh
        ·omega
        ·exact hn hh
      ·have hil : x.1.length ≤ i := by simp at h; omega
       rw [List.take_of_length_le hil] at hall
       have ha1 := hall
       clear hall hi
       simp (disch := first | omega | fail) only [amR Tryd.prog ro X, amS, seval, reduceCtorEq, ty3, ty4, ty9, ty27, ty29, ty50, ty51, ty53, ty129, ty141, g1, g4]
       refine Wp.loopC (fun k e A' => Ext (A.new (.cells [s1.v, s2.v] 2)) A' ∧ e 1 = .pointer (some ⟨A.size, 0, none⟩) ∧ e 4 = .int .i64 0 ∧ ∃ i : Nat, 1 ≤ i ∧ (i = 1 ∨ i ≤ x.2.length) ∧ k = x.2.length + 1 - i ∧ e 8 = .int .i64 i ∧ Asc ((x.2.take i).map (·.1))) (x.2.length + 1 - 1) ?_ ?_
       ·simp (disch := first | omega | fail) only [amV, amH, amQ, amL, amN Tryd.prog, amS, seval, reduceCtorEq, ty3, ty4, ty9, ty27, ty29, ty50, ty51, ty53, ty129, ty141, g1, g4]
        exact ⟨hE, 1, by omega, .inl rfl, rfl, rfl, by cases x.2 <;> simp [Asc]⟩
       ·rintro k e A' ⟨hE, g1, g4, i, hi, hi2, rfl, g5, hall⟩
        have hz := hE.size
        simp only [AH.zN] at hz
        have hE0 : Ext A A' := (Ext.new A _).trans hE
        simp (maxSteps := 2000000) (disch := first | omega | (simp only [AH.zN, AH.zP] <;> omega) | fail) only [amR Tryd.prog ro X, amS, seval, reduceCtorEq, ty3, ty4, ty9, ty27, ty29, ty50, ty51, ty53, ty129, ty141, g1, g4, g5, hE.get, hl2]
        refine CondB.split (fun h => ?_) (fun h => ?_)
        ·have hil : i < x.2.length := by simpa using h
         obtain ⟨c, t, G, n1, b1, i1, c1, r0, _⟩ := (h2.ext hE0).target hil
         obtain ⟨c', t', G', n2, b2, i2, c2, s0, _⟩ := (h2.ext hE0).target (i := i - 1) (by omega)
         rw [c1] at c2; cases c2
         have hi1 : ((i : Int) - 1).toNat = i - 1 := by omega
         refine Wp.runG [] (by kernel_rfl) (.inl (by kernel_rfl)) ?_
         have hst := ascStep (·.1) hil
         by_cases hn : slt x.2[i - 1].1 x.2[i].1
         ·have u : Op.bytesLess (x.2[i - 1]).1.toList (x.2[i]).1.toList = true := hn
          simp (maxSteps := 2000000) (disch := first | omega | (simp only [AH.zN, AH.zP] <;> omega) | fail) only [amR Tryd.prog ro X, amS, seval, reduceCtorEq, ty3, ty4, ty9, ty27, ty29, ty50, ty51, ty53, ty129, ty141, g1, g4, g5, hE.get, n1, c1, r0, s0, hi1, u]
          exact ⟨x.2.length + 1 - (i + 1), by omega, hE, i + 1, by omega, by omega, rfl, by simp, hst.2 ⟨hall, .inr hn⟩⟩
         ·have u : Op.bytesLess (x.2[i - 1]).1.toList (x.2[i]).1.toList = false := by simpa [slt] using hn
          simp (maxSteps := 2000000) (disch := first | omega | (simp only [AH.zN, AH.zP] <;> omega) | fail) only [amR Tryd.prog ro X, amS, seval, reduceCtorEq, ty3, ty4, ty9, ty27, ty29, ty50, ty51, ty53, ty129, ty141, g1, g4, g5, hE.get, n1, c1, r0, s0, hi1, u]
          refine ⟨?_, (by ((repeat' (first | exact Ext.refl _ | assumption | refine Ext.trans ?_ (Ext.new _ _) | refine Ext.put ?_ ?_ _ | refine Ext.trans ?_ (by assumption))) <;> (first | omega | (simp only [AH.zN, AH.zP] <;> omega))))⟩
          rw [spaceCode, if_neg q1', if_neg (fun h => h ⟨hn1, hn2⟩), if_neg (fun h => h ha1), if_pos]
          intro h
          have hh := (hst.1 (Asc.takeMap _ h)).2
          rcases hh with hh | hh
          ·omega
          ·exact hn hh
        ·have hil : x.2.length ≤ i := by simp at h; omega
         rw [List.take_of_length_le hil] at hall
         have ha2 := hall
         clear hall hi
         simp (disch := first | omega | fail) only [amR Tryd.prog ro X, amS, seval, reduceCtorEq, ty3, ty4, ty9, ty27, ty29, ty50, ty51, ty53, ty129, ty141, g1, g4]
         refine Wp.loopC (fun k e A' => Ext (A.new (.cells [s1.v, s2.v] 2)) A' ∧ e 1 = .pointer (some ⟨A.size, 0, none⟩) ∧ e 4 = .int .i64 0 ∧ ∃ i : Nat, i ≤ x.1.length ∧ k = x.1.length + 1 - i ∧ e 9 = .int .i64 i ∧ ∀ y ∈ x.1.take i, ∀ z ∈ x.2, z.1 ≠ y.1) (x.1.length + 1 - 0) ?_ ?_
         ·simp (disch := first | omega | fail) only [amV, amH, amQ, amL, amN Tryd.prog, amS, seval, reduceCtorEq, ty3, ty4, ty9, ty27, ty29, ty50, ty51, ty53, ty129, ty141, g1, g4]
          exact ⟨hE, 0, by omega, rfl, rfl, by simp⟩
         ·rintro k e A' ⟨hE, g1, g4, i, hi, rfl, g5, hall⟩
          have hz := hE.size
          simp only [AH.zN] at hz
          have hE0 : Ext A A' := (Ext.new A _).trans hE
          simp (maxSteps := 2000000) (disch := first | omega | (simp only [AH.zN, AH.zP] <;> omega) | fail) only [amR Tryd.prog ro X, amS, seval, reduceCtorEq, ty3, ty4, ty9, ty27, ty29, ty50, ty51, ty53, ty129, ty141, g1, g4, g5, hE.get, hl1]
          refine CondB.split (fun h => ?_) (fun h => ?_)
          ·have hil : i < x.1.length := by simpa using h
           obtain ⟨c, n1, b1, i1, c1, r0, _⟩ := (h1.ext hE0).source hil
           refine Wp.runG [] (by kernel_rfl) (.inl (by kernel_rfl)) ?_
           simp (maxSteps := 2000000) (disch := first | omega | (simp only [AH.zN, AH.zP] <;> omega) | fail) only [amR Tryd.prog ro X, amS, seval, reduceCtorEq, ty3, ty4, ty9, ty27, ty29, ty50, ty51, ty53, ty129, ty141, g1, g4, g5, hE.get, n1, c1, r0]
           refine (l3Target_a _ (by first | omega | (simp only [AH.zN, AH.zP] <;> omega)) s1 s2 x F2 (h2.ext hE0) x.1[i].1 hl2').mono ?_
           rintro r A3 ⟨rfl, hE3⟩
           rcases placeOf_range x.1[i].1 x.2 with ⟨hp, hno⟩ | ⟨j, hj, hp, hyes⟩
           ·rw [hp]
            simp (disch := first | omega | fail) only [amR Tryd.prog ro X, amS, seval, reduceCtorEq, ty3, ty4, ty9, ty27, ty29, ty50, ty51, ty53, ty129, ty141, g1, g4, g5]
            exact ⟨x.1.length + 1 - (i + 1), by omega, hE.trans hE3, i + 1, by omega, rfl, by simp, (all_take_succ hil).2 ⟨hall, hno⟩⟩
           ·rw [hp]
            have hj0 : (0 : Int) ≤ (j : Int) := by omega
            simp (disch := first | omega | fail) only [amR Tryd.prog ro X, amS, seval, reduceCtorEq, ty3, ty4, ty9, ty27, ty29, ty50, ty51, ty53, ty129, ty141, g1, g4, g5, hj0]
            refine ⟨?_, (by ((repeat' (first | exact Ext.refl _ | assumption | refine Ext.trans ?_ (Ext.new _ _) | refine Ext.put ?_ ?_ _ | refine Ext.trans ?_ (by assumption))) <;> (first | omega | (simp only [AH.zN, AH.zP] <;> omega))))⟩
            rw [spaceCode, if_neg q1', if_neg (fun h => h ⟨hn1, hn2⟩), if_neg (fun h => h ha1), if_neg (fun h => h ha2), if_pos]
            exact fun h => h _ (List.getElem_mem hj) _ (List.getElem_mem hil) hyes.symm
          ·have hil : i = x.1.length := by simp at h; omega
           subst hil
           rw [List.take_length] at hall
           have hno := hall
           clear hall hi
           simp (disch := first | omega | fail) only [amR Tryd.prog ro X, amS, seval, reduceCtorEq, ty3, ty4, ty9, ty27, ty29, ty50, ty51, ty53, ty129, ty141, g1, g4]
           refine Wp.loopC (fun k e A' => Ext (A.new (.cells [s1.v, s2.v] 2)) A' ∧ e 1 = .pointer (some ⟨A.size, 0, none⟩) ∧ e 4 = .int .i64 0 ∧ ∃ i : Nat, i ≤ x.1.length ∧ k = x.1.length + 1 - i ∧ e 10 = .int .i64 i ∧ ∀ y ∈ x.1.take i, y.2.size ≤ 2000) (x.1.length + 1 - 0) ?_ ?_
           ·simp (disch := first | omega | fail) only [amV, amH, amQ, amL, amN Tryd.prog, amS, seval, reduceCtorEq, ty3, ty4, ty9, ty27, ty29, ty50, ty51, ty53, ty129, ty141, g1, g4]
            exact ⟨hE, 0, by omega, rfl, rfl, by simp⟩
           ·rintro k e A' ⟨hE, g1, g4, i, hi, rfl, g5, hall⟩
            have hz := hE.size
            simp only [AH.zN] at hz
            have hE0 : Ext A A' := (Ext.new A _).trans hE
            simp (maxSteps := 2000000) (disch := first | omega | (simp only [AH.zN, AH.zP] <;> omega) | fail) only [amR Tryd.prog ro X, amS, seval, reduceCtorEq, ty3, ty4, ty9, ty27, ty29, ty50, ty51, ty53, ty129, ty141, g1, g4, g5, hE.get, hl1]
            refine CondB.split (fun h => ?_) (fun h => ?_)
            ·have hil : i < x.1.length := by simpa using h
             obtain ⟨c, n1, b1, i1, c1, r0, r1, _, z1, z2⟩ := (h1.ext hE0).source hil
             by_cases hn : (2000 : Int) < x.1[i].2.size
             ·simp (maxSteps := 2000000) (disch := first | omega | (simp only [AH.zN, AH.zP] <;> omega) | fail) only [amR Tryd.prog ro X, amS, seval, reduceCtorEq, ty3, ty4, ty9, ty27, ty29, ty50, ty51, ty53, ty129, ty141, g1, g4, g5, hE.get, n1, c1, r1, hn]
              refine ⟨?_, (by ((repeat' (first | exact Ext.refl _ | assumption | refine Ext.trans ?_ (Ext.new _ _) | refine Ext.put ?_ ?_ _ | refine Ext.trans ?_ (by assumption))) <;> (first | omega | (simp only [AH.zN, AH.zP] <;> omega))))⟩
              rw [spaceCode, if_neg q1', if_neg (fun h => h ⟨hn1, hn2⟩), if_neg (fun h => h ha1), if_neg (fun h => h ha2), if_neg (fun h => h (fun z hz y hy e => hno y hy z hz e.symm)), if_pos]
              intro h; have := h _ (List.getElem_mem hil); omega
             ·simp (maxSteps := 2000000) (disch := first | omega | (simp only [AH.zN, AH.zP] <;> omega) | fail) only [amR Tryd.prog ro X, amS, seval, reduceCtorEq, ty3, ty4, ty9, ty27, ty29, ty50, ty51, ty53, ty129, ty141, g1, g4, g5, hE.get, n1, c1, r1, hn]
              exact ⟨x.1.length + 1 - (i + 1), by omega, hE, i + 1, by omega, rfl, by simp, (all_take_succ hil).2 ⟨hall, by omega⟩⟩
            ·have hil : i = x.1.length := by simp at h; omega
             subst hil
             rw [List.take_length] at hall
             have hsz := hall
             clear hall hi
             simp (disch := first | omega | fail) only [amR Tryd.prog ro X, amS, seval, reduceCtorEq, ty3, ty4, ty9, ty27, ty29, ty50, ty51, ty53, ty129, ty141, g1, g4]
             refine Wp.loopC (fun k e A' => Ext (A.new (.cells [s1.v, s2.v] 2)) A' ∧ e 1 = .pointer (some ⟨A.size, 0, none⟩) ∧ ∃ i : Nat, i ≤ x.2.length ∧ k = x.2.length + 1 - i ∧ e 11 = .int .i64 i ∧ e 4 = .int .i64 (if ∀ y ∈ x.2.take i, ProgOk y.2 then 0 else 7)) (x.2.length + 1 - 0) ?_ ?_
             ·simp (disch := first | omega | fail) only [amV, amH, amQ, amL, amN Tryd.prog, amS, seval, reduceCtorEq, ty3, ty4, ty9, ty27, ty29, ty50, ty51, ty53, ty129, ty141, g1, g4]
              exact ⟨hE, 0, by omega, rfl, rfl, by simp⟩
             ·rintro k e A' ⟨hE, g1, i, hi, rfl, g5, g4⟩
              have hz := hE.size
              simp only [AH.zN] at hz
              have hE0 : Ext A A' := (Ext.new A _).trans hE
              simp (maxSteps := 2000000) (disch := first | omega | (simp only [AH.zN, AH.zP] <;> omega) | fail) only [amR Tryd.prog ro X, amS, seval, reduceCtorEq, ty3, ty4, ty9, ty27, ty29, ty50, ty51, ty53, ty129, ty141, g1, g5, hE.get, hl2]
              refine CondB.split (fun h => ?_) (fun h => ?_)
              ·have hil : i < x.2.length := by simpa using h
               obtain ⟨c, t, G, n1, b1, i1, c1, r0, r1, _, z1, ht, _, hcl⟩ := (h2.ext hE0).target hil
               have r2 := take1 r1
               have hst := all_take_succ (p := fun y : TTarget => ProgOk y.2) hil
               simp (maxSteps := 2000000) (disch := first | omega | (simp only [AH.zN, AH.zP] <;> omega) | fail) only [amR Tryd.prog ro X, amS, seval, reduceCtorEq, ty3, ty4, ty9, ty27, ty29, ty50, ty51, ty53, ty129, ty141, g1, g5, hE.get, n1, c1, r2]
               refine (Prog.specValid_a _ (by first | omega | (simp only [AH.zN, AH.zP] <;> omega)) t x.2[i].2 G ht (hb _ (List.getElem_mem hil))).mono ?_
               rintro r A3 ⟨rfl, hE3⟩
               by_cases hn : ProgOk x.2[i].2
               ·simp (disch := first | omega | fail) only [amR Tryd.prog ro X, amS, seval, reduceCtorEq, ty3, ty4, ty9, ty27, ty29, ty50, ty51, ty53, ty129, ty141, g1, g4, g5, hn]
                refine ⟨x.2.length + 1 - (i + 1), by omega, hE.trans hE3, i + 1, by omega, rfl, by simp, ?_⟩
                have hiff : (∀ y ∈ x.2.take (i + 1), ProgOk y.2) ↔ ∀ y ∈ x.2.take i, ProgOk y.2 := ⟨fun h => (hst.1 h).1, fun h => hst.2 ⟨h, hn⟩⟩
                simp only [hiff]
               ·simp (disch := first | omega | fail) only [amR Tryd.prog ro X, amS, seval, reduceCtorEq, ty3, ty4, ty9, ty27, ty29, ty50, ty51, ty53, ty129, ty141, g1, g4, g5, hn]
                refine ⟨x.2.length + 1 - (i + 1), by omega, hE.trans hE3, i + 1, by omega, rfl, by simp, ?_⟩
                rw [if_neg]
                rw [hst]
                exact fun h => hn h.2
              ·have hil : i = x.2.length := by simp at h; omega
               subst hil
               rw [List.take_length] at g4
               simp (disch := first | omega | fail) only [amR Tryd.prog ro X, amS, seval, reduceCtorEq, ty3, ty4, ty9, ty27, ty29, ty50, ty51, ty53, ty129, ty141, g4]
               refine ⟨?_, (by ((repeat' (first | exact Ext.refl _ | assumption | refine Ext.trans ?_ (Ext.new _ _) | refine Ext.put ?_ ?_ _ | refine Ext.trans ?_ (by assumption))) <;> (first | omega | (simp only [AH.zN, AH.zP] <;> omega))))⟩
               have hcode : spaceCode x = if ¬ (∀ y ∈ x.2, ProgOk y.2) then 7 else 0 := by
                rw [spaceCode, if_neg q1', if_neg (fun h => h ⟨hn1, hn2⟩), if_neg (fun h => h ha1), if_neg (fun h => h ha2), if_neg (fun h => h (fun z hz y hy e => hno y hy z hz e.symm)), if_neg (fun h => h hsz)]
               rw [hcode]
               by_cases hp : ∀ y ∈ x.2, ProgOk y.2
               ·rw [if_pos hp, if_neg (fun h => h hp)]
               ·rw [if_neg hp, if_pos hp]
end Go.Proofs.YtjlbcofopapajaaDoor.Amu.Space
