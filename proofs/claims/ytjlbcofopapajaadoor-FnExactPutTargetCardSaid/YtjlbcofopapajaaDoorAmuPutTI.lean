import Derived.Test.YtjlbcofopapajaaDoorAmuTy
import Derived.Test.YtjlbcofopapajaaDoorAmRun
import Derived.Test.YtjlbcofopapajaaDoorAmPutS
import Derived.Test.YtjlbcofopapajaaDoorAmSort
import Derived.Test.YtjlbcofopapajaaDoorAmuCopy
import Derived.Test.YtjlbcofopapajaaDoorAmuStore
import Derived.Test.YtjlbcofopapajaaDoorAmuSpace
import Derived.Test.YtjlbcofopapajaaDoorAmuSpace2
import Derived.Test.YtjlbcofopapajaaDoorAmuDrop
namespace Go.Proofs.YtjlbcofopapajaaDoor.Amu.PutTI
open Go Go.AM Go.Proofs
set_option linter.all false
open Ty
variable {ro : Nat} {X : FuncId → List Value → AH → ARes → AH → Prop}
set_option maxRecDepth 10000
theorem iface_sl (A : AH) (t : TypeId) (v : Value) (r : List Value) : ifaceK A t v (some r) (some .slice) = some (.iface t v, A) := rfl
theorem implTgt_a (hXS : ∀ f args A r A', SortX 80 [(51, 90, 1)] ro f args A r A' → X f args A r A') (A : AH) (hro : ro ≤ A.size) (hT : Tab 0 A) (s1 s2 : Sl) (x : TSpace) (F1 F2 : List Nat) (h1 : SlR A s1 x.1 F1) (h2 : SlR A s2 x.2 F2) (hl1' : x.1.length < 4294967296) (hl2' : x.2.length < 4294967296) (hp : ∀ t ∈ x.2, t.2.length < 4294967296) (n : ByteArray) (hn : n.size < BIG) (sp : Sl) (p : TProgram) (Fp : List Nat) (hpr : SlR A sp p Fp) (hpl : p.length < 4294967296) :
 ACalls Tryd.prog ro X 29 [.agg #[s1.v, s2.v], .string n, .agg #[sp.v]] A (fun r A' => ∃ cs G, r = .ret (.tuple #[.agg cs.toArray, .int .i64 (putTgtR x n p).2]) ∧ Dat.rep A' (putTgtR x n p).1 cs G ∧ Fresh A G A' ∧ Ext A A') := by
 refine ACalls.enterQ (rs := [.cell 6 53, .tmp 7]) Tryd.func29 rfl (by kernel_rfl) rfl ?_
 have hl1 := h1.len
 have hl2 := h2.len
 simp (maxSteps := 2000000) (disch := first | omega | (simp only [AH.zN, AH.zP] <;> omega) | fail) only [amR Tryd.prog ro X, amS, seval, reduceCtorEq, ty3, ty4, ty9, ty27, ty29, ty50, ty51, ty53, ty141]
 refine (Space2.implCheck_a _ (by first | omega | (simp only [AH.zN, AH.zP] <;> omega)) (hT.ext (by ((repeat' (first | exact Ext.refl _ | assumption | refine Ext.trans ?_ (Ext.new _ _) | refine Ext.put ?_ ?_ _ | refine Ext.trans ?_ (by assumption))) <;> (first | omega | (simp only [AH.zN, AH.zP] <;> omega))))) s1 s2 x F1 F2 (h1.ext (by ((repeat' (first | exact Ext.refl _ | assumption | refine Ext.trans ?_ (Ext.new _ _) | refine Ext.put ?_ ?_ _ | refine Ext.trans ?_ (by assumption))) <;> (first | omega | (simp only [AH.zN, AH.zP] <;> omega))))) (h2.ext (by ((repeat' (first | exact Ext.refl _ | assumption | refine Ext.trans ?_ (Ext.new _ _) | refine Ext.put ?_ ?_ _ | refine Ext.trans ?_ (by assumption))) <;> (first | omega | (simp only [AH.zN, AH.zP] <;> omega))))) (by omega) (by omega)).mono ?_
 rintro r A1 ⟨rfl, hE1⟩
 have v1 := hE1.size
 simp only [AH.zN] at v1
 have b1 : A1.get (A.size + 1) = .cells [sp.v] 1 := (hE1.get (A.size + 1) (by first | omega | (simp only [AH.zN, AH.zP] <;> omega))).trans (by rw [AH.gNo (by simp only [AH.zN]; omega)]; exact AH.gNs _ _)
 have b2 : A1.get (A.size + 1 + 1) = .cells [Sl.nil.v, Sl.nil.v] 2 := (hE1.get (A.size + 1 + 1) (by first | omega | (simp only [AH.zN, AH.zP] <;> omega))).trans (AH.gNs _ _)
 by_cases k1 : spaceCode x = 0
 ·simp (maxSteps := 2000000) (disch := first | omega | (simp only [AH.zN, AH.zP] <;> omega) | fail) only [amR Tryd.prog ro X, amS, seval, reduceCtorEq, ty3, ty4, ty9, ty27, ty29, ty50, ty51, ty53, ty141, hE1.get, k1]
  refine (Store.impl.isName_a _ n).mono ?_
  rintro r A2 ⟨rfl, rfl⟩
  by_cases k2 : NameOk n
  ·simp (maxSteps := 2000000) (disch := first | omega | (simp only [AH.zN, AH.zP] <;> omega) | fail) only [amR Tryd.prog ro X, amS, seval, reduceCtorEq, ty3, ty4, ty9, ty27, ty29, ty50, ty51, ty53, ty141, hE1.get, k2, b1]
   refine (Prog.implValid_a _ (by first | omega | (simp only [AH.zN, AH.zP] <;> omega)) (hT.ext (by ((repeat' (first | exact Ext.refl _ | assumption | refine Ext.trans ?_ (Ext.new _ _) | refine Ext.put ?_ ?_ _ | refine Ext.trans ?_ (by assumption))) <;> (first | omega | (simp only [AH.zN, AH.zP] <;> omega))))) sp p _ (hpr.ext (by ((repeat' (first | exact Ext.refl _ | assumption | refine Ext.trans ?_ (Ext.new _ _) | refine Ext.put ?_ ?_ _ | refine Ext.trans ?_ (by assumption))) <;> (first | omega | (simp only [AH.zN, AH.zP] <;> omega)))))).mono ?_
   rintro r A2' ⟨rfl, hE2⟩
   have v2 := hE2.size
   have b1' := (hE2.get (A.size + 1) (by omega)).trans b1
   have b2' := (hE2.get (A.size + 1 + 1) (by omega)).trans b2
   have b0 : A2'.get A.size = _ := (hE2.get A.size (by omega)).trans (hE1.get A.size (by first | omega | (simp only [AH.zN, AH.zP] <;> omega)))
   have hEA : Ext A A2' := (by ((repeat' (first | exact Ext.refl _ | assumption | refine Ext.trans ?_ (Ext.new _ _) | refine Ext.put ?_ ?_ _ | refine Ext.trans ?_ (by assumption))) <;> (first | omega | (simp only [AH.zN, AH.zP] <;> omega))))
   clear hE1
   by_cases k3 : ProgOk p
   ·have kk : ¬ (¬ NameOk n ∨ ¬ ProgOk p) := fun h => h.elim (fun h => h k2) (fun h => h k3)
    simp (maxSteps := 2000000) (disch := first | omega | (simp only [AH.zN, AH.zP] <;> omega) | fail) only [amR Tryd.prog ro X, amS, seval, reduceCtorEq, ty3, ty4, ty9, ty27, ty29, ty50, ty51, ty53, ty141, k3, b0]
    refine (Drop.without2_a _ (by first | omega | (simp only [AH.zN, AH.zP] <;> omega)) s1 s2 x F1 F2 (h1.ext (by ((repeat' (first | exact Ext.refl _ | assumption | refine Ext.trans ?_ (Ext.new _ _) | refine Ext.put ?_ ?_ _ | refine Ext.trans ?_ (by assumption))) <;> (first | omega | (simp only [AH.zN, AH.zP] <;> omega))))) (h2.ext (by ((repeat' (first | exact Ext.refl _ | assumption | refine Ext.trans ?_ (Ext.new _ _) | refine Ext.put ?_ ?_ _ | refine Ext.trans ?_ (by assumption))) <;> (first | omega | (simp only [AH.zN, AH.zP] <;> omega))))) hl1' hl2' hp n).mono ?_
    rintro r A3 ⟨t1, t2, G1, G2, rfl, q1, q2, fr, hE3, K, H, w1, w2, w3, w4, w5, w6, w7, w8, w9, w10⟩
    have v3 := hE3.size
    have u1 := (hE3.get (A.size + 1) (by omega)).trans b1'
    have u2 := (hE3.get (A.size + 1 + 1) (by omega)).trans b2'
    simp (maxSteps := 2000000) (disch := first | omega | (simp only [AH.zN, AH.zP] <;> omega) | fail) only [amR Tryd.prog ro X, amS, seval, reduceCtorEq, ty3, ty4, ty9, ty27, ty29, ty50, ty51, ty53, ty141]
    generalize hB : AH.put (A3.new _) A3.size _ = B3
    have zB : B3.size = A3.size + 1 := by rw [← hB]; rfl
    have hEB : Ext A3 B3 := by rw [← hB]; exact (by ((repeat' (first | exact Ext.refl _ | assumption | refine Ext.trans ?_ (Ext.new _ _) | refine Ext.put ?_ ?_ _ | refine Ext.trans ?_ (by assumption))) <;> (first | omega | (simp only [AH.zN, AH.zP] <;> omega))))
    have gB : B3.get A3.size = .cells [t1.v, t2.v] 2 := by rw [← hB]; exact AH.gPs _ _ _
    clear hB
    obtain ⟨ha1, ha2, h200⟩ := space_asc k1
    have m1 := wo_length n x.1
    have m2 := wo_length n x.2
    have l1 := q1.len
    have l2 := w6.len
    have uB := (hEB.get (A.size + 1) (by omega)).trans u1
    refine WpH (B3.size) [4] (by kernel_rfl) (.inl (by kernel_rfl)) ?_
    simp (maxSteps := 2000000) (disch := first | omega | (simp only [AH.zN, AH.zP] <;> omega) | fail) only [amX Tryd.prog ro X, amR Tryd.prog ro X, amS, seval, reduceCtorEq, ty3, ty4, ty9, ty27, ty29, ty50, ty51, ty53, ty141, gB, uB]
    refine (Copy.impl.copyProgram_a _ (by omega) sp p Fp ((((hpr.ext hEA).ext hE3).ext hEB)) hpl).mono ?_
    rintro r A4 ⟨t3, G3, rfl, q3, fr3, hE4⟩
    have z4 := hE4.size
    have ht2b : t2.nl = true ∨ t2.b ∉ G3 := w7.imp id fun h hm => by have := fr3.lo _ hm; omega
    obtain ⟨s', A5, hap, hs', hg, hz5, hor⟩ := ((w6.ext hEB).ext hE4).lit (P := Tryd.prog) (ro := ro) (t := 51) (n := 1) (vs := [.string n, t3.v]) (xs := [(n, p)]) (Gx := G3) (by omega) (by simp only [ty51]; rfl) rfl (Reps.one (rep_Target.2 ⟨t3, G3, rfl, rfl, hn, q3⟩)) ht2b (by omega) (by omega)
    rw [show Dat.w TTarget = 2 from rfl] at hap
    have g4 := (hE4.get A3.size (by omega)).trans gB
    have hb2 : t2.b < A3.size := acc_b w6 (by omega) w7
    have g5 := (hg.get A3.size (by omega) (.inr (by omega))).trans g4
    simp (maxSteps := 2000000) (disch := first | omega | (simp only [AH.zN, AH.zP] <;> omega) | fail) only [amX Tryd.prog ro X, amR Tryd.prog ro X, amS, seval, reduceCtorEq, ty3, ty4, ty9, ty27, ty29, ty50, ty51, ty53, ty141, g4, hap, g5]
    refine ⟨fun b hb => hE4.get b hb, ?_⟩
    have hl' := hs'.len
    rw [List.length_append, List.length_singleton] at hl'
    obtain ⟨y1, y2, y3⟩ := hs'.lt (by simp)
    have hbk : s'.b < A3.size ∨ A4.size < s'.b := by rcases hor with h | h <;> omega
    generalize hA6 : AH.put A5 A3.size _ = A6
    have z6 : A6.size = A5.size := by rw [← hA6]; rfl
    have g6 : A6.get A3.size = .cells [t1.v, s'.v] 2 := by rw [← hA6]; exact AH.gPs _ _ _
    have o6 : ∀ b, b ≠ A3.size → A6.get b = A5.get b := fun b hb => by rw [← hA6]; exact AH.gPo hb
    clear hA6
    refine (Drop.size_a A6 (by omega) t1 s' (by omega) (by omega)).mono ?_
    rintro r A7 ⟨rfl, hE7⟩
    have z7 := hE7.size
    have g7 := (hE7.get A3.size (by omega)).trans g6
    have lo7 : ∀ b, b < A5.size → b ≠ A3.size → A7.get b = A5.get b := fun b hb hne => (hE7.get b (by omega)).trans (o6 b hne)
    have lo4 : ∀ b, b < A4.size → b ≠ A3.size → b ≠ t2.b ∨ b < K → A7.get b = A4.get b := fun b hb hn hne => (lo7 b (by omega) hn).trans (hg.get b (by omega) (by omega))
    have lo3 : ∀ b, b < A3.size → b ≠ t2.b ∨ b < K → A7.get b = A3.get b := fun b hb hne => (lo4 b (by omega) (by omega) hne).trans ((hE4.get b (by omega)).trans (hEB.get b hb))
    have r1 := (lo3 (A.size + 1 + 1) (by omega) (by omega)).trans u2
    have lo0 : ∀ b, b < A.size → A7.get b = A.get b := fun b hb => (lo3 b (by omega) (by omega)).trans ((hE3.get b (by omega)).trans (hEA.get b hb))
    by_cases k4 : 200 ≤ (wo n x.1).length + (wo n x.2).length
    ·have k5 : (200 : Int) < (t1.len : Int) + s'.len := by omega
     simp (maxSteps := 2000000) (disch := first | omega | (simp only [AH.zN, AH.zP] <;> omega) | fail) only [amR Tryd.prog ro X, amS, seval, reduceCtorEq, ty3, ty4, ty9, ty27, ty29, ty50, ty51, ty53, ty141, k5, r1]
     exact ⟨_, _, by rw [putTgtR_3 k1 kk k4], by rw [putTgtR_3 k1 kk k4]; exact Drop.zeroSp_rep _, Fresh.nil _ _, ⟨(by first | omega | (simp only [AH.zN, AH.zP] <;> omega)), fun b hb => by rw [AH.gPo (by omega), lo0 b hb]⟩⟩
    ·have k5 : ¬ (200 : Int) < (t1.len : Int) + s'.len := by omega
     simp (maxSteps := 2000000) (disch := first | omega | (simp only [AH.zN, AH.zP] <;> omega) | fail) only [amR Tryd.prog ro X, amS, seval, reduceCtorEq, ty3, ty4, ty9, ty27, ty29, ty50, ty51, ty53, ty141, k5, g7, iface_sl, List.map_toArray]
     have hHG : ∀ b ∈ H ++ G3, K ≤ b ∧ b < A4.size ∧ b ≠ A3.size := fun b hb => by
      rcases List.mem_append.1 hb with hb | hb
      ·have := w9 b hb; omega
      ·have := fr3.lo b hb; have := fr3.hi b hb; omega
     have hacc7 : AM.Acc K A7 s' (wo n x.2 ++ [(n, p)]) (H ++ G3) := hs'.frame (by omega) fun b hb hm => by
      rcases hm with ⟨_, h, rfl⟩ | h
      ·exact lo7 _ hb (by omega)
      ·exact lo7 _ hb (hHG b h).2.2
     obtain ⟨A8, G8, hx8, hacc8, hpm, z8, o8⟩ := hacc7.sorted rfl twoTarget hXS (p := A3.size) (by omega) g7 rfl (by omega) (fun hm => (hHG _ hm).2.2 rfl) (by omega) (by omega) (wo_sorted ha2) (fun y hy => (wo_mem.1 hy).2)
     refine ⟨_, A8, .ext hx8, ?_⟩
     have g8 := (o8 A3.size (by omega)).trans g7
     have r8 := (o8 (A.size + 1 + 1) (by omega)).trans r1
     simp (maxSteps := 2000000) (disch := first | omega | (simp only [AH.zN, AH.zP] <;> omega) | fail) only [amR Tryd.prog ro X, amS, seval, reduceCtorEq, ty3, ty4, ty9, ty27, ty29, ty50, ty51, ty53, ty141, g8, r8]
     have hG8 : ∀ b ∈ G8, K ≤ b ∧ b < A4.size ∧ b ≠ A3.size := fun b hb => hHG b (hpm.mem_iff.1 hb)
     have hnd : (H ++ G3).Nodup := List.nodup_append.2 ⟨w10, fr3.nodup, fun a ha b hb e => by have := w9 a ha; have := fr3.lo b hb; omega⟩
     obtain ⟨Fs, hsl, f1, f2, f3⟩ := hacc8.foot (fun b hb => (hG8 b hb).1) (hpm.nodup_iff.2 hnd)
     have hF8 := hsl.bound
     have hXP := (ExtX.refl [A.size + 1 + 1] A8).put (b := A.size + 1 + 1) (by simp) (.cells [t1.v, s'.v] 2)
     have hG1 : ∀ b ∈ G1, A2'.size ≤ b ∧ b < K ∧ A8.get b = A3.get b := fun b hb => by
      have h1 := w5 b hb
      have h2 := fr.lo b (by simp [hb])
      exact ⟨h2, h1, (o8 b (by omega)).trans (lo3 b (by omega) (.inr h1))⟩
     refine ⟨_, G1 ++ Fs, by rw [putTgtR_0 k1 kk k4], ?_, ⟨List.nodup_append.2 ⟨(List.nodup_append.1 fr.nodup).1, f1, fun a ha b hb e => ?_⟩, fun b hb => ?_, fun b hb => ?_⟩, ⟨(by first | omega | (simp only [AH.zN, AH.zP] <;> omega)), fun b hb => ?_⟩⟩
     ·rw [putTgtR_0 k1 kk k4]
      refine rep_Space.2 ⟨t1, s', G1, Fs, rfl, rfl, ?_, hsl.extx hXP (fun b hb => by have := f2 b hb; simp; omega)⟩
      exact (q1.frame (A' := A8) fun b hb => ⟨(hG1 b hb).2.2, by have := (hG1 b hb).2.1; omega⟩).extx hXP (fun b hb => by have := (hG1 b hb).1; simp; omega)
     ·have := hG1 a ha; have := f2 b hb; omega
     ·rcases List.mem_append.1 hb with hb | hb
      ·have := hG1 b hb; omega
      ·have := f2 b hb; omega
     ·simp only [AH.zP]
      rcases List.mem_append.1 hb with hb | hb
      ·have := hG1 b hb; omega
      ·exact hF8 b hb
     ·rw [AH.gPo (by omega), o8 b (by omega), lo0 b hb]
   ·have kk : ¬ NameOk n ∨ ¬ ProgOk p := .inr k3
    simp (maxSteps := 2000000) (disch := first | omega | (simp only [AH.zN, AH.zP] <;> omega) | fail) only [amR Tryd.prog ro X, amS, seval, reduceCtorEq, ty3, ty4, ty9, ty27, ty29, ty50, ty51, ty53, ty141, k3, b2']
    exact ⟨_, _, by rw [putTgtR_2 k1 kk], by rw [putTgtR_2 k1 kk]; exact Drop.zeroSp_rep _, Fresh.nil _ _, (by ((repeat' (first | exact Ext.refl _ | assumption | refine Ext.trans ?_ (Ext.new _ _) | refine Ext.put ?_ ?_ _ | refine Ext.trans ?_ (by assumption))) <;> (first | omega | (simp only [AH.zN, AH.zP] <;> omega))))⟩
  ·have kk : ¬ NameOk n ∨ ¬ ProgOk p := .inl k2
   simp (maxSteps := 2000000) (disch := first | omega | (simp only [AH.zN, AH.zP] <;> omega) | fail) only [amR Tryd.prog ro X, amS, seval, reduceCtorEq, ty3, ty4, ty9, ty27, ty29, ty50, ty51, ty53, ty141, hE1.get, k2]
   exact ⟨_, _, by rw [putTgtR_2 k1 kk], by rw [putTgtR_2 k1 kk]; exact Drop.zeroSp_rep _, Fresh.nil _ _, (by ((repeat' (first | exact Ext.refl _ | assumption | refine Ext.trans ?_ (Ext.new _ _) | refine Ext.put ?_ ?_ _ | refine Ext.trans ?_ (by assumption))) <;> (first | omega | (simp only [AH.zN, AH.zP] <;> omega))))⟩
 ·simp (maxSteps := 2000000) (disch := first | omega | (simp only [AH.zN, AH.zP] <;> omega) | fail) only [amR Tryd.prog ro X, amS, seval, reduceCtorEq, ty3, ty4, ty9, ty27, ty29, ty50, ty51, ty53, ty141, hE1.get, k1]
  exact ⟨_, _, by rw [putTgtR_1 k1], by rw [putTgtR_1 k1]; exact Drop.zeroSp_rep _, Fresh.nil _ _, (by ((repeat' (first | exact Ext.refl _ | assumption | refine Ext.trans ?_ (Ext.new _ _) | refine Ext.put ?_ ?_ _ | refine Ext.trans ?_ (by assumption))) <;> (first | omega | (simp only [AH.zN, AH.zP] <;> omega))))⟩
end Go.Proofs.YtjlbcofopapajaaDoor.Amu.PutTI
