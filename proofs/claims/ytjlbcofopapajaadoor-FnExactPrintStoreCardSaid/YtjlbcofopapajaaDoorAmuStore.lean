import Derived.Test.YtjlbcofopapajaaDoorAmuTy
import Derived.Test.YtjlbcofopapajaaDoorAmTX
import Derived.Test.YtjlbcofopapajaaDoorAmuSum
import Derived.Test.YtjlbcofopapajaaDoorAmuProg
namespace Go.Proofs.YtjlbcofopapajaaDoor.Amu.Store
open Go Go.AM Go.Proofs
set_option linter.all false
open Ty
variable {ro : Nat} {X : FuncId → List Value → AH → ARes → AH → Prop}
set_option maxRecDepth 10000
theorem impl.isName_a (A : AH) (s : ByteArray) : ACalls Tryd.prog ro X 77 [.string s] A (fun r A' => r = .ret (.bool (decide (NameOk s))) ∧ A' = A) := by
 refine ACalls.enterQ (rs := [.tmp 2]) Tryd.func77 rfl (by kernel_rfl) rfl ?_
 by_cases h1 : (s.size : Int) < 1
 ·simp (disch := first | omega | fail) only [amR Tryd.prog ro X, amS, seval, reduceCtorEq, ty3, ty5, ty9, h1]
  rw [decide_eq_false]
  intro h; have := h.1; omega
 by_cases h2 : (60 : Int) < s.size
 ·simp (disch := first | omega | fail) only [amR Tryd.prog ro X, amS, seval, reduceCtorEq, ty3, ty5, ty9, h1, h2]
  rw [decide_eq_false]
  intro h; have := h.2.1; omega
 simp (disch := first | omega | fail) only [amR Tryd.prog ro X, amS, seval, reduceCtorEq, ty3, ty5, ty9, h1, h2]
 refine Wp.loopC (fun n e A' => A' = A ∧ e 0 = .string s ∧ ∃ i : Nat, i ≤ s.size ∧ n = s.size - i ∧ e 3 = .int .i64 i ∧ ∀ b ∈ (ls s).take i, NameB b) (s.size - 0) ?_ ?_
 ·simp (disch := first | omega | fail) only [amV, amH, amQ, amL, amN Tryd.prog, amS, seval, reduceCtorEq, ty3, ty5, ty9]
  exact ⟨0, by omega, rfl, rfl, by simp⟩
 ·rintro n e A' ⟨rfl, h0, i, hi, rfl, h3, hall⟩
  simp (disch := first | omega | fail) only [amR Tryd.prog ro X, amS, seval, reduceCtorEq, ty3, ty5, ty9, h0, h3]
  refine CondB.split (fun h => ?_) (fun h => ?_)
  ·have hil : i < s.size := by simpa using h
   have hm := bget_mem s i hil
   by_cases k1 : ((bget s i).toNat : Int) < 33
   ·simp (disch := first | omega | fail) only [amR Tryd.prog ro X, amS, seval, reduceCtorEq, ty3, ty5, ty9, h0, h3, k1]
    rw [decide_eq_false]
    intro h; have := (h.2.2 _ hm).1; omega
   by_cases k2 : (126 : Int) < (bget s i).toNat
   ·simp (disch := first | omega | fail) only [amR Tryd.prog ro X, amS, seval, reduceCtorEq, ty3, ty5, ty9, h0, h3, k1, k2]
    rw [decide_eq_false]
    intro h; have := (h.2.2 _ hm).2; omega
   simp (disch := first | omega | fail) only [amR Tryd.prog ro X, amS, seval, reduceCtorEq, ty3, ty5, ty9, h0, h3, k1, k2]
   exact ⟨s.size - (i + 1), by omega, i + 1, by omega, rfl, by simp, (ls_all_succ hil).2 ⟨hall, by omega, by omega⟩⟩
  ·have hil : i = s.size := by simp at h; omega
   subst hil
   rw [ls_take_all] at hall
   simp (disch := first | omega | fail) only [amR Tryd.prog ro X, amS, seval, reduceCtorEq, ty3, ty5, ty9]
   rw [decide_eq_true]
   exact ⟨by omega, by omega, hall⟩
theorem spec.l2NameOk_a (A : AH) (s : ByteArray) : ACalls Tryd.prog ro X 72 [.string s] A (fun r A' => r = .ret (.bool (decide (NameOk s))) ∧ A' = A) := by
 refine ACalls.enterQ (rs := [.tmp 2]) Tryd.func72 rfl (by kernel_rfl) rfl ?_
 by_cases h1 : (s.size : Int) < 1
 ·simp (disch := first | omega | fail) only [amR Tryd.prog ro X, amS, seval, reduceCtorEq, ty3, ty5, ty9, h1]
  rw [decide_eq_false]
  intro h; have := h.1; omega
 by_cases h2 : (60 : Int) < s.size
 ·simp (disch := first | omega | fail) only [amR Tryd.prog ro X, amS, seval, reduceCtorEq, ty3, ty5, ty9, h1, h2]
  rw [decide_eq_false]
  intro h; have := h.2.1; omega
 simp (disch := first | omega | fail) only [amR Tryd.prog ro X, amS, seval, reduceCtorEq, ty3, ty5, ty9, h1, h2]
 refine Wp.loopC (fun n e A' => A' = A ∧ e 0 = .string s ∧ ∃ i : Nat, i ≤ s.size ∧ n = s.size - i ∧ e 3 = .int .i64 i ∧ ∀ b ∈ (ls s).take i, NameB b) (s.size - 0) ?_ ?_
 ·simp (disch := first | omega | fail) only [amV, amH, amQ, amL, amN Tryd.prog, amS, seval, reduceCtorEq, ty3, ty5, ty9]
  exact ⟨0, by omega, rfl, rfl, by simp⟩
 ·rintro n e A' ⟨rfl, h0, i, hi, rfl, h3, hall⟩
  simp (disch := first | omega | fail) only [amR Tryd.prog ro X, amS, seval, reduceCtorEq, ty3, ty5, ty9, h0, h3]
  refine CondB.split (fun h => ?_) (fun h => ?_)
  ·have hil : i < s.size := by simpa using h
   have hm := bget_mem s i hil
   by_cases k1 : ((bget s i).toNat : Int) < 33
   ·simp (disch := first | omega | fail) only [amR Tryd.prog ro X, amS, seval, reduceCtorEq, ty3, ty5, ty9, h0, h3, k1]
    rw [decide_eq_false]
    intro h; have := (h.2.2 _ hm).1; omega
   by_cases k2 : (126 : Int) < (bget s i).toNat
   ·simp (disch := first | omega | fail) only [amR Tryd.prog ro X, amS, seval, reduceCtorEq, ty3, ty5, ty9, h0, h3, k1, k2]
    rw [decide_eq_false]
    intro h; have := (h.2.2 _ hm).2; omega
   simp (disch := first | omega | fail) only [amR Tryd.prog ro X, amS, seval, reduceCtorEq, ty3, ty5, ty9, h0, h3, k1, k2]
   exact ⟨s.size - (i + 1), by omega, i + 1, by omega, rfl, by simp, (ls_all_succ hil).2 ⟨hall, by omega, by omega⟩⟩
  ·have hil : i = s.size := by simp at h; omega
   subst hil
   rw [ls_take_all] at hall
   simp (disch := first | omega | fail) only [amR Tryd.prog ro X, amS, seval, reduceCtorEq, ty3, ty5, ty9]
   rw [decide_eq_true]
   exact ⟨by omega, by omega, hall⟩
theorem glanceOk_a (A : AH) (hro : ro ≤ A.size) (g : TGlance) (w : Int) (hz : g.2.2.size < 4611686018427387904) :
 ACalls Tryd.prog ro X 177 [.agg #[.string g.1, .bool g.2.1, .string g.2.2], .int .i64 w] A (fun r A' => r = .ret (.bool (decide (GlanceOk g w))) ∧ Ext A A') := by
 refine ACalls.enterQ (rs := [.tmp 4]) Tryd.func177 rfl (by kernel_rfl) rfl ?_
 simp (disch := first | omega | fail) only [amR Tryd.prog ro X, amS, seval, reduceCtorEq, ty3, ty4, ty9, ty120]
 refine (spec.l2NameOk_a _ g.1).mono ?_
 rintro r A2 ⟨rfl, rfl⟩
 by_cases hn : NameOk g.1
 ·simp (disch := first | omega | fail) only [amR Tryd.prog ro X, amS, seval, reduceCtorEq, ty3, ty4, ty9, ty120, hn]
  refine ⟨?_, Ext.new _ _⟩
  congr 3
  simp [GlanceOk, hn]
 ·simp (disch := first | omega | fail) only [amR Tryd.prog ro X, amS, seval, reduceCtorEq, ty3, ty4, ty9, ty120, hn]
  refine ⟨?_, Ext.new _ _⟩
  rw [decide_eq_false]
  exact fun h => hn h.1
theorem implRec_a (A : AH) (hro : ro ≤ A.size) (hT : Tab 0 A) (s1 s2 : Sl) (x : TRecord) (F1 F2 : List Nat) (h1 : SlR A s1 x.1 F1) (h2 : SlR A s2 x.2.1 F2) (hz : x.2.2.size < 4611686018427387904) (w : Int) :
 ACalls Tryd.prog ro X 130 [.agg #[s1.v, s2.v, .string x.2.2], .int .i64 w] A (fun r A' => r = .ret (.bool (decide (RecOk x w))) ∧ Ext A A') := by
 refine ACalls.enterQ (rs := [.tmp 4]) Tryd.func130 rfl (by kernel_rfl) rfl ?_
 have hlen := h2.len
 simp (disch := first | omega | fail) only [amR Tryd.prog ro X, amS, seval, reduceCtorEq, ty3, ty4, ty9, ty27, ty29, ty116, ty118, ty120]
 refine (Prog.implValid_a _ (by first | omega | (simp only [AH.zN, AH.zP] <;> omega)) (hT.ext (by ((repeat' (first | exact Ext.refl _ | assumption | refine Ext.trans ?_ (Ext.new _ _) | refine Ext.put ?_ ?_ _ | refine Ext.trans ?_ (by assumption))) <;> (first | omega | (simp only [AH.zN, AH.zP] <;> omega))))) s1 x.1 F1 (h1.ext (by ((repeat' (first | exact Ext.refl _ | assumption | refine Ext.trans ?_ (Ext.new _ _) | refine Ext.put ?_ ?_ _ | refine Ext.trans ?_ (by assumption))) <;> (first | omega | (simp only [AH.zN, AH.zP] <;> omega)))))).mono ?_
 rintro r A2 ⟨rfl, hE⟩
 have z2 := hE.size
 simp only [AH.zN] at z2
 by_cases k1 : ProgOk x.1
 ·by_cases k2 : (200 : Int) < x.2.1.length
  ·simp (maxSteps := 2000000) (disch := first | omega | (simp only [AH.zN, AH.zP] <;> omega) | fail) only [amR Tryd.prog ro X, amS, seval, reduceCtorEq, ty3, ty4, ty9, ty27, ty29, ty116, ty118, ty120, hE.get, k1, k2, hlen]
   exact ⟨by rw [decide_eq_false]; intro h; have := h.2.1; omega, (by ((repeat' (first | exact Ext.refl _ | assumption | refine Ext.trans ?_ (Ext.new _ _) | refine Ext.put ?_ ?_ _ | refine Ext.trans ?_ (by assumption))) <;> (first | omega | (simp only [AH.zN, AH.zP] <;> omega))))⟩
  by_cases k3 : (x.2.2.size : Int) = w
  ·simp (maxSteps := 2000000) (disch := first | omega | (simp only [AH.zN, AH.zP] <;> omega) | fail) only [amR Tryd.prog ro X, amS, seval, reduceCtorEq, ty3, ty4, ty9, ty27, ty29, ty116, ty118, ty120, hE.get, k1, k2, k3, hlen]
   refine Wp.loopC (fun n e A' => Ext A A' ∧ e 1 = .int .i64 w ∧ e 25 = s2.v ∧ e 26 = .int .i64 x.2.1.length ∧ ∃ i : Nat, i ≤ x.2.1.length ∧ n = x.2.1.length - i ∧ e 27 = .int .i64 i ∧ ∀ g ∈ x.2.1.take i, GlanceOk g w) (x.2.1.length - 0) ?_ ?_
   ·simp (disch := first | omega | fail) only [amV, amH, amQ, amL, amN Tryd.prog, amS, seval, reduceCtorEq, ty3, ty4, ty9, ty27, ty29, ty116, ty118, ty120, hlen]
    exact ⟨(by ((repeat' (first | exact Ext.refl _ | assumption | refine Ext.trans ?_ (Ext.new _ _) | refine Ext.put ?_ ?_ _ | refine Ext.trans ?_ (by assumption))) <;> (first | omega | (simp only [AH.zN, AH.zP] <;> omega)))), 0, by omega, rfl, rfl, by simp⟩
   ·rintro n e A' ⟨hE', g1, g25, g26, i, hi, rfl, g27, hall⟩
    have hz' := hE'.size
    simp (disch := first | omega | fail) only [amR Tryd.prog ro X, amS, seval, reduceCtorEq, ty3, ty4, ty9, ty27, ty29, ty116, ty118, ty120, g1, g25, g26, g27]
    refine CondB.split (fun h => ?_) (fun h => ?_)
    ·have hil : i < x.2.1.length := by simpa using h
     obtain ⟨n1, b1, i1, c1, q1, q2⟩ := (h2.ext hE').glance hil
     simp (disch := first | omega | fail) only [amR Tryd.prog ro X, amS, seval, reduceCtorEq, ty3, ty4, ty9, ty27, ty29, ty116, ty118, ty120, g1, g25, g26, g27, n1, c1]
     refine (impl.isName_a _ x.2.1[i].1).mono ?_
     rintro r A3 ⟨rfl, rfl⟩
     by_cases k4 : NameOk x.2.1[i].1
     ·by_cases k5 : (x.2.1[i].2.2.size : Int) = w
      ·simp (disch := first | omega | fail) only [amR Tryd.prog ro X, amS, seval, reduceCtorEq, ty3, ty4, ty9, ty27, ty29, ty116, ty118, ty120, g1, g25, g26, g27, k4, k5]
       exact ⟨x.2.1.length - (i + 1), by omega, (by ((repeat' (first | exact Ext.refl _ | assumption | refine Ext.trans ?_ (Ext.new _ _) | refine Ext.put ?_ ?_ _ | refine Ext.trans ?_ (by assumption))) <;> (first | omega | (simp only [AH.zN, AH.zP] <;> omega)))), i + 1, by omega, rfl, by simp, (all_take_succ hil).2 ⟨hall, k4, k5⟩⟩
      ·simp (disch := first | omega | fail) only [amR Tryd.prog ro X, amS, seval, reduceCtorEq, ty3, ty4, ty9, ty27, ty29, ty116, ty118, ty120, g1, g25, g26, g27, k4, k5]
       exact ⟨by rw [decide_eq_false]; intro h; exact k5 (h.2.2.2 _ (List.getElem_mem hil)).2, (by ((repeat' (first | exact Ext.refl _ | assumption | refine Ext.trans ?_ (Ext.new _ _) | refine Ext.put ?_ ?_ _ | refine Ext.trans ?_ (by assumption))) <;> (first | omega | (simp only [AH.zN, AH.zP] <;> omega))))⟩
     ·simp (disch := first | omega | fail) only [amR Tryd.prog ro X, amS, seval, reduceCtorEq, ty3, ty4, ty9, ty27, ty29, ty116, ty118, ty120, g1, g25, g26, g27, k4]
      exact ⟨by rw [decide_eq_false]; intro h; exact k4 (h.2.2.2 _ (List.getElem_mem hil)).1, (by ((repeat' (first | exact Ext.refl _ | assumption | refine Ext.trans ?_ (Ext.new _ _) | refine Ext.put ?_ ?_ _ | refine Ext.trans ?_ (by assumption))) <;> (first | omega | (simp only [AH.zN, AH.zP] <;> omega))))⟩
    ·have hil : i = x.2.1.length := by simp at h; omega
     subst hil
     rw [List.take_length] at hall
     simp (disch := first | omega | fail) only [amR Tryd.prog ro X, amS, seval, reduceCtorEq, ty3, ty4, ty9, ty27, ty29, ty116, ty118, ty120]
     exact ⟨by rw [decide_eq_true]; exact ⟨k1, by omega, k3, hall⟩, hE'⟩
  ·simp (maxSteps := 2000000) (disch := first | omega | (simp only [AH.zN, AH.zP] <;> omega) | fail) only [amR Tryd.prog ro X, amS, seval, reduceCtorEq, ty3, ty4, ty9, ty27, ty29, ty116, ty118, ty120, hE.get, k1, k2, k3, hlen]
   exact ⟨by rw [decide_eq_false]; intro h; exact k3 h.2.2.1, (by ((repeat' (first | exact Ext.refl _ | assumption | refine Ext.trans ?_ (Ext.new _ _) | refine Ext.put ?_ ?_ _ | refine Ext.trans ?_ (by assumption))) <;> (first | omega | (simp only [AH.zN, AH.zP] <;> omega))))⟩
 ·simp (disch := first | omega | fail) only [amR Tryd.prog ro X, amS, seval, reduceCtorEq, ty3, ty4, ty9, ty27, ty29, ty116, ty118, ty120, hE.get, k1]
  exact ⟨by rw [decide_eq_false]; intro h; exact k1 h.1, (by ((repeat' (first | exact Ext.refl _ | assumption | refine Ext.trans ?_ (Ext.new _ _) | refine Ext.put ?_ ?_ _ | refine Ext.trans ?_ (by assumption))) <;> (first | omega | (simp only [AH.zN, AH.zP] <;> omega))))⟩
theorem specRec_a (A : AH) (hro : ro ≤ A.size) (s1 s2 : Sl) (x : TRecord) (F1 F2 : List Nat) (h1 : SlR A s1 x.1 F1) (h2 : SlR A s2 x.2.1 F2) (hl : x.1.length < 281474976710656) (hz : x.2.2.size < 4611686018427387904) (w : Int) :
 ACalls Tryd.prog ro X 125 [.agg #[s1.v, s2.v, .string x.2.2], .int .i64 w] A (fun r A' => r = .ret (.bool (decide (RecOk x w))) ∧ Ext A A') := by
 refine ACalls.enterQ (rs := [.tmp 4]) Tryd.func125 rfl (by kernel_rfl) rfl ?_
 have hlen := h2.len
 simp (disch := first | omega | fail) only [amR Tryd.prog ro X, amS, seval, reduceCtorEq, ty3, ty4, ty9, ty27, ty29, ty116, ty118, ty120]
 refine (Prog.specValid_a _ (by first | omega | (simp only [AH.zN, AH.zP] <;> omega)) s1 x.1 F1 (h1.ext (by ((repeat' (first | exact Ext.refl _ | assumption | refine Ext.trans ?_ (Ext.new _ _) | refine Ext.put ?_ ?_ _ | refine Ext.trans ?_ (by assumption))) <;> (first | omega | (simp only [AH.zN, AH.zP] <;> omega))))) hl).mono ?_
 rintro r A2 ⟨rfl, hE⟩
 have z2 := hE.size
 simp only [AH.zN] at z2
 by_cases k1 : ProgOk x.1
 ·by_cases k3 : (x.2.2.size : Int) = w
  ·by_cases k2 : (200 : Int) < x.2.1.length
   ·simp (maxSteps := 2000000) (disch := first | omega | (simp only [AH.zN, AH.zP] <;> omega) | fail) only [amR Tryd.prog ro X, amS, seval, reduceCtorEq, ty3, ty4, ty9, ty27, ty29, ty116, ty118, ty120, hE.get, k1, k2, k3, hlen]
    exact ⟨by rw [decide_eq_false]; intro h; have := h.2.1; omega, (by ((repeat' (first | exact Ext.refl _ | assumption | refine Ext.trans ?_ (Ext.new _ _) | refine Ext.put ?_ ?_ _ | refine Ext.trans ?_ (by assumption))) <;> (first | omega | (simp only [AH.zN, AH.zP] <;> omega))))⟩
   simp (maxSteps := 2000000) (disch := first | omega | (simp only [AH.zN, AH.zP] <;> omega) | fail) only [amR Tryd.prog ro X, amS, seval, reduceCtorEq, ty3, ty4, ty9, ty27, ty29, ty116, ty118, ty120, hE.get, k1, k2, k3, hlen]
   have hE0 : Ext A A2 := (by ((repeat' (first | exact Ext.refl _ | assumption | refine Ext.trans ?_ (Ext.new _ _) | refine Ext.put ?_ ?_ _ | refine Ext.trans ?_ (by assumption))) <;> (first | omega | (simp only [AH.zN, AH.zP] <;> omega))))
   refine Wp.loopC (fun n e A' => Ext A2 A' ∧ e 1 = .int .i64 w ∧ e 2 = .pointer (some ⟨A.size, 0, none⟩) ∧ ∃ i : Nat, i ≤ x.2.1.length ∧ n = x.2.1.length - i ∧ e 5 = .int .i64 i ∧ ∀ g ∈ x.2.1.take i, GlanceOk g w) (x.2.1.length - 0) ?_ ?_
   ·simp (disch := first | omega | fail) only [amV, amH, amQ, amL, amN Tryd.prog, amS, seval, reduceCtorEq, ty3, ty4, ty9, ty27, ty29, ty116, ty118, ty120, hlen]
    exact ⟨Ext.refl _, 0, by omega, rfl, rfl, by simp⟩
   ·rintro n e A' ⟨hE', g1, g2, i, hi, rfl, g5, hall⟩
    have hz' := hE'.size
    simp (maxSteps := 2000000) (disch := first | omega | (simp only [AH.zN, AH.zP] <;> omega) | fail) only [amR Tryd.prog ro X, amS, seval, reduceCtorEq, ty3, ty4, ty9, ty27, ty29, ty116, ty118, ty120, g1, g2, g5, hE'.get, hE.get, hlen]
    refine CondB.split (fun h => ?_) (fun h => ?_)
    ·have hil : i < x.2.1.length := by simpa using h
     obtain ⟨n1, b1, i1, c1, q1, q2⟩ := (h2.ext (hE0.trans hE')).glance hil
     simp (maxSteps := 2000000) (disch := first | omega | (simp only [AH.zN, AH.zP] <;> omega) | fail) only [amR Tryd.prog ro X, amS, seval, reduceCtorEq, ty3, ty4, ty9, ty27, ty29, ty116, ty118, ty120, g1, g2, g5, hE'.get, hE.get, n1, c1]
     refine (glanceOk_a _ (by first | omega | (simp only [AH.zN, AH.zP] <;> omega)) x.2.1[i] w q2).mono ?_
     rintro r A3 ⟨rfl, hE3⟩
     by_cases k4 : GlanceOk x.2.1[i] w
     ·simp (disch := first | omega | fail) only [amR Tryd.prog ro X, amS, seval, reduceCtorEq, ty3, ty4, ty9, ty27, ty29, ty116, ty118, ty120, g1, g2, g5, k4]
      exact ⟨x.2.1.length - (i + 1), by omega, hE'.trans hE3, i + 1, by omega, rfl, by simp, (all_take_succ hil).2 ⟨hall, k4⟩⟩
     ·simp (disch := first | omega | fail) only [amR Tryd.prog ro X, amS, seval, reduceCtorEq, ty3, ty4, ty9, ty27, ty29, ty116, ty118, ty120, g1, g2, g5, k4]
      exact ⟨by rw [decide_eq_false]; intro h; exact k4 (h.2.2.2 _ (List.getElem_mem hil)), (by ((repeat' (first | exact Ext.refl _ | assumption | refine Ext.trans ?_ (Ext.new _ _) | refine Ext.put ?_ ?_ _ | refine Ext.trans ?_ (by assumption))) <;> (first | omega | (simp only [AH.zN, AH.zP] <;> omega))))⟩
    ·have hil : i = x.2.1.length := by simp at h; omega
     subst hil
     rw [List.take_length] at hall
     simp (disch := first | omega | fail) only [amR Tryd.prog ro X, amS, seval, reduceCtorEq, ty3, ty4, ty9, ty27, ty29, ty116, ty118, ty120]
     exact ⟨by rw [decide_eq_true]; exact ⟨k1, by omega, k3, hall⟩, hE0.trans hE'⟩
  ·simp (maxSteps := 2000000) (disch := first | omega | (simp only [AH.zN, AH.zP] <;> omega) | fail) only [amR Tryd.prog ro X, amS, seval, reduceCtorEq, ty3, ty4, ty9, ty27, ty29, ty116, ty118, ty120, hE.get, k1, k3, hlen]
   exact ⟨by rw [decide_eq_false]; intro h; exact k3 h.2.2.1, (by ((repeat' (first | exact Ext.refl _ | assumption | refine Ext.trans ?_ (Ext.new _ _) | refine Ext.put ?_ ?_ _ | refine Ext.trans ?_ (by assumption))) <;> (first | omega | (simp only [AH.zN, AH.zP] <;> omega))))⟩
 ·simp (disch := first | omega | fail) only [amR Tryd.prog ro X, amS, seval, reduceCtorEq, ty3, ty4, ty9, ty27, ty29, ty116, ty118, ty120, hE.get, k1]
  exact ⟨by rw [decide_eq_false]; intro h; exact k1 h.1, (by ((repeat' (first | exact Ext.refl _ | assumption | refine Ext.trans ?_ (Ext.new _ _) | refine Ext.put ?_ ?_ _ | refine Ext.trans ?_ (by assumption))) <;> (first | omega | (simp only [AH.zN, AH.zP] <;> omega))))⟩
theorem implStore_a (A : AH) (hro : ro ≤ A.size) (hT : Tab 0 A) (s1 s2 : Sl) (x : TStore) (F1 F2 : List Nat) (h1 : SlR A s1 x.2.1 F1) (h2 : SlR A s2 x.2.2 F2) :
 ACalls Tryd.prog ro X 62 [.agg #[.int .i64 x.1, s1.v, s2.v]] A (fun r A' => r = .ret (.bool (decide (StoreOk x))) ∧ Ext A A') := by
 refine ACalls.enterQ (rs := [.tmp 2]) Tryd.func62 rfl (by kernel_rfl) rfl ?_
 have hl1 := h1.len
 have hl2 := h2.len
 simp (disch := first | omega | fail) only [amR Tryd.prog ro X, amS, seval, reduceCtorEq, ty3, ty4, ty9, ty29, ty33, ty39, ty41, ty116, ty118]
 refine (Sum.impl.isWidth_a _ x.1).mono ?_
 rintro r A2 ⟨rfl, rfl⟩
 by_cases k1 : isW x.1
 ·by_cases k2 : (5000 : Int) < x.2.1.length
  ·simp (disch := first | omega | fail) only [amR Tryd.prog ro X, amS, seval, reduceCtorEq, ty3, ty4, ty9, ty29, ty33, ty39, ty41, ty116, ty118, k1, k2, hl1, hl2]
   exact ⟨by rw [decide_eq_false]; intro h; have := h.2.1; omega, (by ((repeat' (first | exact Ext.refl _ | assumption | refine Ext.trans ?_ (Ext.new _ _) | refine Ext.put ?_ ?_ _ | refine Ext.trans ?_ (by assumption))) <;> (first | omega | (simp only [AH.zN, AH.zP] <;> omega))))⟩
  by_cases k3 : (2000 : Int) < x.2.2.length
  ·simp (disch := first | omega | fail) only [amR Tryd.prog ro X, amS, seval, reduceCtorEq, ty3, ty4, ty9, ty29, ty33, ty39, ty41, ty116, ty118, k1, k2, k3, hl1, hl2]
   exact ⟨by rw [decide_eq_false]; intro h; have := h.2.2.1; omega, (by ((repeat' (first | exact Ext.refl _ | assumption | refine Ext.trans ?_ (Ext.new _ _) | refine Ext.put ?_ ?_ _ | refine Ext.trans ?_ (by assumption))) <;> (first | omega | (simp only [AH.zN, AH.zP] <;> omega))))⟩
  simp (disch := first | omega | fail) only [amR Tryd.prog ro X, amS, seval, reduceCtorEq, ty3, ty4, ty9, ty29, ty33, ty39, ty41, ty116, ty118, k1, k2, k3, hl1, hl2]
  refine Wp.loopC (fun n e A' => Ext (A.new (.cells [.int .i64 x.1, s1.v, s2.v] 3)) A' ∧ e 1 = .pointer (some ⟨A.size, 0, none⟩) ∧ e 26 = s1.v ∧ e 27 = .int .i64 x.2.1.length ∧ ∃ i : Nat, i ≤ x.2.1.length ∧ n = x.2.1.length - i ∧ e 28 = .int .i64 i ∧ e 3 = .string (lastSum x.1 (x.2.1.take i)) ∧
   Rising x.1 (x.2.1.take i) ∧ ∀ t ∈ x.2.1.take i, t.size ≤ 2002) (x.2.1.length - 0) ?_ ?_
  ·simp (disch := first | omega | fail) only [amV, amH, amQ, amL, amN Tryd.prog, amS, seval, reduceCtorEq, ty3, ty4, ty9, ty29, ty33, ty39, ty41, ty116, ty118, hl1]
   exact ⟨Ext.refl _, 0, by omega, rfl, rfl, rfl, trivial, by simp⟩
  ·rintro n e A' ⟨hE', g1, g26, g27, i, hi, rfl, g28, g3, hris, hall⟩
   have hz' := hE'.size
   simp only [AH.zN] at hz'
   have hE0 : Ext A A' := (Ext.new A _).trans hE'
   simp (disch := first | omega | fail) only [amR Tryd.prog ro X, amS, seval, reduceCtorEq, ty3, ty4, ty9, ty29, ty33, ty39, ty41, ty116, ty118, g26, g27, g28]
   refine CondB.split (fun h => ?_) (fun h => ?_)
   ·have hil : i < x.2.1.length := by simpa using h
    obtain ⟨n1, b1, m1, i1, c1, q1⟩ := (h1.ext hE0).str hil
    rw [aCell_eq] at c1
    simp (maxSteps := 2000000) (disch := first | omega | (simp only [AH.zN, AH.zP] <;> omega) | fail) only [amR Tryd.prog ro X, amS, seval, reduceCtorEq, ty3, ty4, ty9, ty29, ty33, ty39, ty41, ty116, ty118, g1, g26, g27, g28, n1, c1, hE'.get]
    refine (Sum.impl_a A' (by omega) x.2.1[i] x.1 q1).mono ?_
    rintro r A3 ⟨rfl, hE3⟩
    have hstep := riseStep (w := x.1) hil
    by_cases k4 : (2002 : Int) < x.2.1[i].size
    ·simp (disch := first | omega | fail) only [amR Tryd.prog ro X, amS, seval, reduceCtorEq, ty3, ty4, ty9, ty29, ty33, ty39, ty41, ty116, ty118, g1, g3, g26, g27, g28, k4]
     exact ⟨by rw [decide_eq_false]; intro h; have := h.2.2.2.2.1 _ (List.getElem_mem hil); omega, (by ((repeat' (first | exact Ext.refl _ | assumption | refine Ext.trans ?_ (Ext.new _ _) | refine Ext.put ?_ ?_ _ | refine Ext.trans ?_ (by assumption))) <;> (first | omega | (simp only [AH.zN, AH.zP] <;> omega))))⟩
    have k4' : x.2.1[i].size ≤ 2002 := by omega
    by_cases k5 : (0 : Int) < i
    ·by_cases k6 : slt (lastSum x.1 (x.2.1.take i)) (sumS x.2.1[i] x.1)
     ·obtain ⟨u1, u2⟩ := sle_facts.1 k6
      simp (disch := first | omega | fail) only [amR Tryd.prog ro X, amS, seval, reduceCtorEq, ty3, ty4, ty9, ty29, ty33, ty39, ty41, ty116, ty118, g1, g3, g26, g27, g28, k4, k5, u1, u2]
      refine ⟨x.2.1.length - (i + 1), by omega, hE'.trans hE3, i + 1, by omega, rfl, by simp, ?_, hstep.2 ⟨hris, .inr k6⟩, (all_take_succ hil).2 ⟨hall, k4'⟩⟩
      rw [List.take_succ_eq_append_getElem hil, lastSum_snoc]
     ·have u := sle_facts.2 k6
      simp (disch := first | omega | fail) only [amR Tryd.prog ro X, amS, seval, reduceCtorEq, ty3, ty4, ty9, ty29, ty33, ty39, ty41, ty116, ty118, g1, g3, g26, g27, g28, k4, k5, u]
      refine ⟨?_, hE0.trans hE3⟩
      rw [decide_eq_false]
      intro h
      have := (hstep.1 (h.2.2.2.1.take _)).2
      rcases this with h0 | h0
      ·omega
      ·exact k6 h0
    ·simp (disch := first | omega | fail) only [amR Tryd.prog ro X, amS, seval, reduceCtorEq, ty3, ty4, ty9, ty29, ty33, ty39, ty41, ty116, ty118, g1, g3, g26, g27, g28, k4, k5]
     refine ⟨x.2.1.length - (i + 1), by omega, hE'.trans hE3, i + 1, by omega, rfl, by simp, ?_, hstep.2 ⟨hris, .inl (by omega)⟩, (all_take_succ hil).2 ⟨hall, k4'⟩⟩
     rw [List.take_succ_eq_append_getElem hil, lastSum_snoc]
   ·have hil : i = x.2.1.length := by simp at h; omega
    subst hil
    rw [List.take_length] at hris hall
    simp (maxSteps := 2000000) (disch := first | omega | (simp only [AH.zN, AH.zP] <;> omega) | fail) only [amR Tryd.prog ro X, amS, seval, reduceCtorEq, ty3, ty4, ty9, ty29, ty33, ty39, ty41, ty116, ty118, g1, hE'.get, hl2]
    refine Wp.loopC (fun n e A2 => Ext A' A2 ∧ e 1 = .pointer (some ⟨A.size, 0, none⟩) ∧ e 52 = s2.v ∧ e 53 = .int .i64 x.2.2.length ∧ ∃ i : Nat, i ≤ x.2.2.length ∧ n = x.2.2.length - i ∧ e 54 = .int .i64 i ∧ ∀ r ∈ x.2.2.take i, RecOk r x.1) (x.2.2.length - 0) ?_ ?_
    ·simp (disch := first | omega | fail) only [amV, amH, amQ, amL, amN Tryd.prog, amS, seval, reduceCtorEq, ty3, ty4, ty9, ty29, ty33, ty39, ty41, ty116, ty118, hl2]
     exact ⟨Ext.refl _, by rw [g1], 0, by omega, rfl, rfl, by simp⟩
    ·rintro n e A2 ⟨hE2, g1, g52, g53, j, hj, rfl, g54, hall2⟩
     have hz2 := hE2.size
     simp (disch := first | omega | fail) only [amR Tryd.prog ro X, amS, seval, reduceCtorEq, ty3, ty4, ty9, ty29, ty33, ty39, ty41, ty116, ty118, g1, g52, g53, g54]
     refine CondB.split (fun h => ?_) (fun h => ?_)
     ·have hjl : j < x.2.2.length := by simpa using h
      obtain ⟨n1, b1, i1, t1, t2, H1, H2, c1, r1, r2, rz, _, _⟩ := (h2.ext (hE0.trans hE2)).record hjl
      simp (maxSteps := 2000000) (disch := first | omega | (simp only [AH.zN, AH.zP] <;> omega) | fail) only [amR Tryd.prog ro X, amS, seval, reduceCtorEq, ty3, ty4, ty9, ty29, ty33, ty39, ty41, ty116, ty118, g1, g52, g53, g54, n1, c1, hE2.get, hE'.get]
      refine (implRec_a _ (by first | omega | (simp only [AH.zN, AH.zP] <;> omega)) (hT.ext (by ((repeat' (first | exact Ext.refl _ | assumption | refine Ext.trans ?_ (Ext.new _ _) | refine Ext.put ?_ ?_ _ | refine Ext.trans ?_ (by assumption))) <;> (first | omega | (simp only [AH.zN, AH.zP] <;> omega))))) t1 t2 x.2.2[j] H1 H2 (r1.ext (by ((repeat' (first | exact Ext.refl _ | assumption | refine Ext.trans ?_ (Ext.new _ _) | refine Ext.put ?_ ?_ _ | refine Ext.trans ?_ (by assumption))) <;> (first | omega | (simp only [AH.zN, AH.zP] <;> omega))))) (r2.ext (by ((repeat' (first | exact Ext.refl _ | assumption | refine Ext.trans ?_ (Ext.new _ _) | refine Ext.put ?_ ?_ _ | refine Ext.trans ?_ (by assumption))) <;> (first | omega | (simp only [AH.zN, AH.zP] <;> omega))))) rz x.1).mono ?_
      rintro r A3 ⟨rfl, hE3⟩
      by_cases k4 : RecOk x.2.2[j] x.1
      ·simp (disch := first | omega | fail) only [amR Tryd.prog ro X, amS, seval, reduceCtorEq, ty3, ty4, ty9, ty29, ty33, ty39, ty41, ty116, ty118, g1, g52, g53, g54, k4]
       exact ⟨x.2.2.length - (j + 1), by omega, (by ((repeat' (first | exact Ext.refl _ | assumption | refine Ext.trans ?_ (Ext.new _ _) | refine Ext.put ?_ ?_ _ | refine Ext.trans ?_ (by assumption))) <;> (first | omega | (simp only [AH.zN, AH.zP] <;> omega)))), j + 1, by omega, rfl, by simp, (all_take_succ hjl).2 ⟨hall2, k4⟩⟩
      ·simp (disch := first | omega | fail) only [amR Tryd.prog ro X, amS, seval, reduceCtorEq, ty3, ty4, ty9, ty29, ty33, ty39, ty41, ty116, ty118, g1, g52, g53, g54, k4]
       exact ⟨by rw [decide_eq_false]; intro h; exact k4 (h.2.2.2.2.2 _ (List.getElem_mem hjl)), (by ((repeat' (first | exact Ext.refl _ | assumption | refine Ext.trans ?_ (Ext.new _ _) | refine Ext.put ?_ ?_ _ | refine Ext.trans ?_ (by assumption))) <;> (first | omega | (simp only [AH.zN, AH.zP] <;> omega))))⟩
     ·have hjl : j = x.2.2.length := by simp at h; omega
      subst hjl
      rw [List.take_length] at hall2
      simp (disch := first | omega | fail) only [amR Tryd.prog ro X, amS, seval, reduceCtorEq, ty3, ty4, ty9, ty29, ty33, ty39, ty41, ty116, ty118]
      exact ⟨by rw [decide_eq_true]; exact ⟨k1, by omega, by omega, hris, hall, hall2⟩, (by ((repeat' (first | exact Ext.refl _ | assumption | refine Ext.trans ?_ (Ext.new _ _) | refine Ext.put ?_ ?_ _ | refine Ext.trans ?_ (by assumption))) <;> (first | omega | (simp only [AH.zN, AH.zP] <;> omega))))⟩
 ·simp (disch := first | omega | fail) only [amR Tryd.prog ro X, amS, seval, reduceCtorEq, ty3, ty4, ty9, ty29, ty33, ty39, ty41, ty116, ty118, k1]
  exact ⟨by rw [decide_eq_false]; intro h; exact k1 h.1, (by ((repeat' (first | exact Ext.refl _ | assumption | refine Ext.trans ?_ (Ext.new _ _) | refine Ext.put ?_ ?_ _ | refine Ext.trans ?_ (by assumption))) <;> (first | omega | (simp only [AH.zN, AH.zP] <;> omega))))⟩
theorem specStore_a (A : AH) (hro : ro ≤ A.size) (s1 s2 : Sl) (x : TStore) (F1 F2 : List Nat) (h1 : SlR A s1 x.2.1 F1) (h2 : SlR A s2 x.2.2 F2) (hb : ∀ r ∈ x.2.2, r.1.length < 281474976710656) :
 ACalls Tryd.prog ro X 58 [.agg #[.int .i64 x.1, s1.v, s2.v]] A (fun r A' => r = .ret (.bool (decide (StoreOk x))) ∧ Ext A A') := by
 refine ACalls.enterQ (rs := [.tmp 2]) Tryd.func58 rfl (by kernel_rfl) rfl ?_
 have hl1 := h1.len
 have hl2 := h2.len
 simp (disch := first | omega | fail) only [amR Tryd.prog ro X, amS, seval, reduceCtorEq, ty3, ty4, ty9, ty29, ty33, ty39, ty41, ty116, ty118]
 refine (Sum.spec.l1Width_a _ x.1).mono ?_
 rintro r A2 ⟨rfl, rfl⟩
 by_cases k1 : isW x.1
 ·by_cases k2 : (5000 : Int) < x.2.1.length
  ·simp (disch := first | omega | fail) only [amR Tryd.prog ro X, amS, seval, reduceCtorEq, ty3, ty4, ty9, ty29, ty33, ty39, ty41, ty116, ty118, k1, k2, hl1, hl2]
   exact ⟨by rw [decide_eq_false]; intro h; have := h.2.1; omega, (by ((repeat' (first | exact Ext.refl _ | assumption | refine Ext.trans ?_ (Ext.new _ _) | refine Ext.put ?_ ?_ _ | refine Ext.trans ?_ (by assumption))) <;> (first | omega | (simp only [AH.zN, AH.zP] <;> omega))))⟩
  by_cases k3 : (2000 : Int) < x.2.2.length
  ·simp (disch := first | omega | fail) only [amR Tryd.prog ro X, amS, seval, reduceCtorEq, ty3, ty4, ty9, ty29, ty33, ty39, ty41, ty116, ty118, k1, k2, k3, hl1, hl2]
   exact ⟨by rw [decide_eq_false]; intro h; have := h.2.2.1; omega, (by ((repeat' (first | exact Ext.refl _ | assumption | refine Ext.trans ?_ (Ext.new _ _) | refine Ext.put ?_ ?_ _ | refine Ext.trans ?_ (by assumption))) <;> (first | omega | (simp only [AH.zN, AH.zP] <;> omega))))⟩
  simp (disch := first | omega | fail) only [amR Tryd.prog ro X, amS, seval, reduceCtorEq, ty3, ty4, ty9, ty29, ty33, ty39, ty41, ty116, ty118, k1, k2, k3, hl1, hl2]
  refine Wp.loopC (fun n e A' => Ext (A.new (.cells [.int .i64 x.1, s1.v, s2.v] 3)) A' ∧ e 1 = .pointer (some ⟨A.size, 0, none⟩) ∧ ∃ i : Nat, i ≤ x.2.1.length ∧ n = x.2.1.length - i ∧ e 4 = .int .i64 i ∧ e 3 = .string (lastSum x.1 (x.2.1.take i)) ∧
   Rising x.1 (x.2.1.take i) ∧ ∀ t ∈ x.2.1.take i, t.size ≤ 2002) (x.2.1.length - 0) ?_ ?_
  ·simp (disch := first | omega | fail) only [amV, amH, amQ, amL, amN Tryd.prog, amS, seval, reduceCtorEq, ty3, ty4, ty9, ty29, ty33, ty39, ty41, ty116, ty118, hl1]
   exact ⟨Ext.refl _, 0, by omega, rfl, rfl, rfl, trivial, by simp⟩
  ·rintro n e A' ⟨hE', g1, i, hi, rfl, g4, g3, hris, hall⟩
   have hz' := hE'.size
   simp only [AH.zN] at hz'
   have hE0 : Ext A A' := (Ext.new A _).trans hE'
   simp (maxSteps := 2000000) (disch := first | omega | (simp only [AH.zN, AH.zP] <;> omega) | fail) only [amR Tryd.prog ro X, amS, seval, reduceCtorEq, ty3, ty4, ty9, ty29, ty33, ty39, ty41, ty116, ty118, g1, g4, hE'.get, hl1]
   refine CondB.split (fun h => ?_) (fun h => ?_)
   ·have hil : i < x.2.1.length := by simpa using h
    obtain ⟨n1, b1, m1, i1, c1, q1⟩ := (h1.ext hE0).str hil
    rw [aCell_eq] at c1
    have hstep := riseStep (w := x.1) hil
    by_cases k4 : (2002 : Int) < x.2.1[i].size
    ·simp (maxSteps := 2000000) (disch := first | omega | (simp only [AH.zN, AH.zP] <;> omega) | fail) only [amR Tryd.prog ro X, amS, seval, reduceCtorEq, ty3, ty4, ty9, ty29, ty33, ty39, ty41, ty116, ty118, g1, g3, g4, n1, c1, hE'.get, k4]
     exact ⟨by rw [decide_eq_false]; intro h; have := h.2.2.2.2.1 _ (List.getElem_mem hil); omega, (by ((repeat' (first | exact Ext.refl _ | assumption | refine Ext.trans ?_ (Ext.new _ _) | refine Ext.put ?_ ?_ _ | refine Ext.trans ?_ (by assumption))) <;> (first | omega | (simp only [AH.zN, AH.zP] <;> omega))))⟩
    have k4' : x.2.1[i].size ≤ 2002 := by omega
    simp (maxSteps := 2000000) (disch := first | omega | (simp only [AH.zN, AH.zP] <;> omega) | fail) only [amR Tryd.prog ro X, amS, seval, reduceCtorEq, ty3, ty4, ty9, ty29, ty33, ty39, ty41, ty116, ty118, g1, g3, g4, n1, c1, hE'.get, k4]
    refine Wp.runG [] (by kernel_rfl) (.inl (by kernel_rfl)) ?_
    simp (maxSteps := 2000000) (disch := first | omega | (simp only [AH.zN, AH.zP] <;> omega) | fail) only [amR Tryd.prog ro X, amS, seval, reduceCtorEq, ty3, ty4, ty9, ty29, ty33, ty39, ty41, ty116, ty118, g1, g3, g4, n1, c1, hE'.get, k4]
    refine (Sum.spec_a A' (by omega) x.2.1[i] x.1 q1).mono ?_
    rintro r A3 ⟨rfl, hE3⟩
    by_cases k5 : (0 : Int) < i
    ·by_cases k6 : slt (lastSum x.1 (x.2.1.take i)) (sumS x.2.1[i] x.1)
     ·have u : Op.bytesLess (lastSum x.1 (x.2.1.take i)).toList (sumS x.2.1[i] x.1).toList = true := k6
      simp (disch := first | omega | fail) only [amR Tryd.prog ro X, amS, seval, reduceCtorEq, ty3, ty4, ty9, ty29, ty33, ty39, ty41, ty116, ty118, g1, g3, g4, k5, u]
      refine ⟨x.2.1.length - (i + 1), by omega, hE'.trans hE3, i + 1, by omega, rfl, by simp, ?_, hstep.2 ⟨hris, .inr k6⟩, (all_take_succ hil).2 ⟨hall, k4'⟩⟩
      rw [List.take_succ_eq_append_getElem hil, lastSum_snoc]
     ·have u : Op.bytesLess (lastSum x.1 (x.2.1.take i)).toList (sumS x.2.1[i] x.1).toList = false := by simpa [slt] using k6
      simp (disch := first | omega | fail) only [amR Tryd.prog ro X, amS, seval, reduceCtorEq, ty3, ty4, ty9, ty29, ty33, ty39, ty41, ty116, ty118, g1, g3, g4, k5, u]
      refine ⟨?_, hE0.trans hE3⟩
      rw [decide_eq_false]
      intro h
      have := (hstep.1 (h.2.2.2.1.take _)).2
      rcases this with h0 | h0
      ·omega
      ·exact k6 h0
    ·simp (disch := first | omega | fail) only [amR Tryd.prog ro X, amS, seval, reduceCtorEq, ty3, ty4, ty9, ty29, ty33, ty39, ty41, ty116, ty118, g1, g3, g4, k5]
     refine ⟨x.2.1.length - (i + 1), by omega, hE'.trans hE3, i + 1, by omega, rfl, by simp, ?_, hstep.2 ⟨hris, .inl (by omega)⟩, (all_take_succ hil).2 ⟨hall, k4'⟩⟩
     rw [List.take_succ_eq_append_getElem hil, lastSum_snoc]
   ·have hil : i = x.2.1.length := by simp at h; omega
    subst hil
    rw [List.take_length] at hris hall
    simp (disch := first | omega | fail) only [amR Tryd.prog ro X, amS, seval, reduceCtorEq, ty3, ty4, ty9, ty29, ty33, ty39, ty41, ty116, ty118, g1, hE'.get, hl2]
    refine Wp.loopC (fun n e A2 => Ext A' A2 ∧ e 1 = .pointer (some ⟨A.size, 0, none⟩) ∧ ∃ i : Nat, i ≤ x.2.2.length ∧ n = x.2.2.length - i ∧ e 6 = .int .i64 i ∧ ∀ r ∈ x.2.2.take i, RecOk r x.1) (x.2.2.length - 0) ?_ ?_
    ·simp (disch := first | omega | fail) only [amV, amH, amQ, amL, amN Tryd.prog, amS, seval, reduceCtorEq, ty3, ty4, ty9, ty29, ty33, ty39, ty41, ty116, ty118, hl2]
     exact ⟨Ext.refl _, by rw [g1], 0, by omega, rfl, rfl, by simp⟩
    ·rintro n e A2 ⟨hE2, g1, j, hj, rfl, g6, hall2⟩
     have hz2 := hE2.size
     simp (maxSteps := 2000000) (disch := first | omega | (simp only [AH.zN, AH.zP] <;> omega) | fail) only [amR Tryd.prog ro X, amS, seval, reduceCtorEq, ty3, ty4, ty9, ty29, ty33, ty39, ty41, ty116, ty118, g1, g6, hE2.get, hE'.get, hl2]
     refine CondB.split (fun h => ?_) (fun h => ?_)
     ·have hjl : j < x.2.2.length := by simpa using h
      obtain ⟨n1, b1, i1, t1, t2, H1, H2, c1, r1, r2, rz, _, _⟩ := (h2.ext (hE0.trans hE2)).record hjl
      simp (disch := first | omega | fail) only [amR Tryd.prog ro X, amS, seval, reduceCtorEq, ty3, ty4, ty9, ty29, ty33, ty39, ty41, ty116, ty118]
      refine Wp.runG [] (by kernel_rfl) (.inl (by kernel_rfl)) ?_
      simp (maxSteps := 2000000) (disch := first | omega | (simp only [AH.zN, AH.zP] <;> omega) | fail) only [amR Tryd.prog ro X, amS, seval, reduceCtorEq, ty3, ty4, ty9, ty29, ty33, ty39, ty41, ty116, ty118, g1, g6, n1, c1, hE2.get, hE'.get]
      refine (specRec_a _ (by first | omega | (simp only [AH.zN, AH.zP] <;> omega)) t1 t2 x.2.2[j] H1 H2 (r1.ext (by ((repeat' (first | exact Ext.refl _ | assumption | refine Ext.trans ?_ (Ext.new _ _) | refine Ext.put ?_ ?_ _ | refine Ext.trans ?_ (by assumption))) <;> (first | omega | (simp only [AH.zN, AH.zP] <;> omega))))) (r2.ext (by ((repeat' (first | exact Ext.refl _ | assumption | refine Ext.trans ?_ (Ext.new _ _) | refine Ext.put ?_ ?_ _ | refine Ext.trans ?_ (by assumption))) <;> (first | omega | (simp only [AH.zN, AH.zP] <;> omega))))) (hb _ (List.getElem_mem hjl)) rz x.1).mono ?_
      rintro r A3 ⟨rfl, hE3⟩
      by_cases k4 : RecOk x.2.2[j] x.1
      ·simp (disch := first | omega | fail) only [amR Tryd.prog ro X, amS, seval, reduceCtorEq, ty3, ty4, ty9, ty29, ty33, ty39, ty41, ty116, ty118, g1, g6, k4]
       exact ⟨x.2.2.length - (j + 1), by omega, (by ((repeat' (first | exact Ext.refl _ | assumption | refine Ext.trans ?_ (Ext.new _ _) | refine Ext.put ?_ ?_ _ | refine Ext.trans ?_ (by assumption))) <;> (first | omega | (simp only [AH.zN, AH.zP] <;> omega)))), j + 1, by omega, rfl, by simp, (all_take_succ hjl).2 ⟨hall2, k4⟩⟩
      ·simp (disch := first | omega | fail) only [amR Tryd.prog ro X, amS, seval, reduceCtorEq, ty3, ty4, ty9, ty29, ty33, ty39, ty41, ty116, ty118, g1, g6, k4]
       exact ⟨by rw [decide_eq_false]; intro h; exact k4 (h.2.2.2.2.2 _ (List.getElem_mem hjl)), (by ((repeat' (first | exact Ext.refl _ | assumption | refine Ext.trans ?_ (Ext.new _ _) | refine Ext.put ?_ ?_ _ | refine Ext.trans ?_ (by assumption))) <;> (first | omega | (simp only [AH.zN, AH.zP] <;> omega))))⟩
     ·have hjl : j = x.2.2.length := by simp at h; omega
      subst hjl
      rw [List.take_length] at hall2
      simp (disch := first | omega | fail) only [amR Tryd.prog ro X, amS, seval, reduceCtorEq, ty3, ty4, ty9, ty29, ty33, ty39, ty41, ty116, ty118]
      exact ⟨by rw [decide_eq_true]; exact ⟨k1, by omega, by omega, hris, hall, hall2⟩, (by ((repeat' (first | exact Ext.refl _ | assumption | refine Ext.trans ?_ (Ext.new _ _) | refine Ext.put ?_ ?_ _ | refine Ext.trans ?_ (by assumption))) <;> (first | omega | (simp only [AH.zN, AH.zP] <;> omega))))⟩
 ·simp (disch := first | omega | fail) only [amR Tryd.prog ro X, amS, seval, reduceCtorEq, ty3, ty4, ty9, ty29, ty33, ty39, ty41, ty116, ty118, k1]
  exact ⟨by rw [decide_eq_false]; intro h; exact k1 h.1, (by ((repeat' (first | exact Ext.refl _ | assumption | refine Ext.trans ?_ (Ext.new _ _) | refine Ext.put ?_ ?_ _ | refine Ext.trans ?_ (by assumption))) <;> (first | omega | (simp only [AH.zN, AH.zP] <;> omega))))⟩
end Go.Proofs.YtjlbcofopapajaaDoor.Amu.Store
