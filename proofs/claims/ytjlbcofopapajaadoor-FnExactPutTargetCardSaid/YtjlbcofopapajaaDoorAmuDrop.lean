import Derived.Test.YtjlbcofopapajaaDoorAmuTy
import Derived.Test.YtjlbcofopapajaaDoorAmRun
import Derived.Test.YtjlbcofopapajaaDoorAmuCopy
import Derived.Test.YtjlbcofopapajaaDoorAmuStore
import Derived.Test.YtjlbcofopapajaaDoorAmuSpace
import Derived.Test.YtjlbcofopapajaaDoorAmuSpace2
namespace Go.Proofs.YtjlbcofopapajaaDoor.Amu.Drop
open Go Go.AM Go.Proofs
set_option linter.all false
open Ty
variable {ro : Nat} {X : FuncId → List Value → AH → ARes → AH → Prop}
set_option maxRecDepth 10000
theorem acc_lower {α : Type} [Dat α] {lo lo' : Nat} {A : AH} {s : Sl} {l : List α} {G : List Nat} (h : Acc lo A s l G) (hl : lo' ≤ lo) : Acc lo' A s l G := by
 cases h with
 | nil => exact .nil
 | empty b o => exact .empty b o
 | own h1 h2 h3 h4 h5 h6 h7 => exact .own (Nat.le_trans hl h1) h2 h3 h4 h5 h6 h7
theorem without2_a (A : AH) (hro : ro ≤ A.size) (s1 s2 : Sl) (x : TSpace) (F1 F2 : List Nat) (h1 : SlR A s1 x.1 F1) (h2 : SlR A s2 x.2 F2) (hl1' : x.1.length < 4294967296) (hl2' : x.2.length < 4294967296) (hp : ∀ t ∈ x.2, t.2.length < 4294967296) (n : ByteArray) :
 ACalls Tryd.prog ro X 78 [.agg #[s1.v, s2.v], .string n] A (fun r A' => ∃ t1 t2 G1 G2, r = .ret (.agg #[t1.v, t2.v]) ∧ SlR A' t1 (wo n x.1) G1 ∧ SlR A' t2 (wo n x.2) G2 ∧ Fresh A (G1 ++ G2) A' ∧ Ext A A' ∧
  ∃ K H, A.size ≤ K ∧ K ≤ A'.size ∧ Acc A.size A' t1 (wo n x.1) [] ∧ (t1.nl = true ∨ t1.b < K) ∧ (∀ b ∈ G1, b < K) ∧ Acc K A' t2 (wo n x.2) H ∧ (t2.nl = true ∨ t2.b < A'.size) ∧ (∀ b ∈ G2, K ≤ b) ∧ (∀ b ∈ H, K ≤ b ∧ b < A'.size) ∧ H.Nodup) := by
 refine ACalls.enterQ (rs := [.cell 4 53]) Tryd.func78 rfl (by kernel_rfl) rfl ?_
 have hl1 := h1.len
 have hl2 := h2.len
 simp (maxSteps := 2000000) (disch := first | omega | (simp only [AH.zN, AH.zP] <;> omega) | fail) only [amR Tryd.prog ro X, amS, seval, reduceCtorEq, ty3, ty9, ty27, ty29, ty50, ty51, ty53, ty129, ty141, hl1, hl2]
 generalize hA0 : ((A.new _).new _).new _ = A0
 have hz0 : A0.size = A.size + 3 := by rw [← hA0]; rfl
 have hE0 : Ext A A0 := by rw [← hA0]; exact (by ((repeat' (first | exact Ext.refl _ | assumption | refine Ext.trans ?_ (Ext.new _ _) | refine Ext.put ?_ ?_ _ | refine Ext.trans ?_ (by assumption))) <;> (first | omega | (simp only [AH.zN, AH.zP] <;> omega))))
 have go0 : A0.get (A.size + 2) = .cells [Sl.nil.v, Sl.nil.v] 2 := by rw [← hA0]; exact AH.gNs _ _
 have gr0 : A0.get (A.size + 1) = .cells [Sl.nil.v, Sl.nil.v] 2 := by rw [← hA0, AH.gNo (by simp only [AH.zN]; omega)]; exact AH.gNs _ _
 have gb0 : A0.get A.size = .cells [s1.v, s2.v] 2 := by rw [← hA0, AH.gNo (by simp only [AH.zN]; omega), AH.gNo (by simp only [AH.zN]; omega)]; exact AH.gNs _ _
 refine Wp.loopC (fun k e A' => ExtX [A.size + 2] A0 A' ∧ e 1 = .string n ∧ e 2 = .pointer (some ⟨A.size, 0, none⟩) ∧ e 4 = .pointer (some ⟨A.size + 1, 0, none⟩) ∧ e 5 = .pointer (some ⟨A.size + 2, 0, none⟩) ∧ e 11 = s1.v ∧ e 12 = .int .i64 x.1.length ∧
  ∃ i : Nat, i ≤ x.1.length ∧ k = x.1.length - i ∧ e 13 = .int .i64 i ∧ ∃ s', Acc A0.size A' s' (wo n (x.1.take i)) [] ∧ A'.get (A.size + 2) = .cells [s'.v, Sl.nil.v] 2 ∧ (s'.nl = true ∨ s'.b < A'.size)) (x.1.length - 0) ?_ ?_
 ·simp (maxSteps := 2000000) (disch := first | omega | (simp only [AH.zN, AH.zP] <;> omega) | fail) only [amV, amH, amQ, amL, amN Tryd.prog, amS, seval, reduceCtorEq, ty3, ty9, ty27, ty29, ty50, ty51, ty53, ty129, ty141, hl1]
  exact ⟨ExtX.refl _ _, 0, by omega, rfl, rfl, Sl.nil, .nil, go0, .inl rfl⟩
 ·rintro k e A' ⟨hX, e1, e2, e4, e5, e11, e12, i, hi, rfl, e13, s', hacc, gO, hub1⟩
  have hz := hX.size
  have hs1 : SlR A' s1 x.1 F1 := (h1.ext hE0).extx hX (fun b hb => by have := h1.bound b hb; simp; omega)
  simp (maxSteps := 2000000) (disch := first | omega | (simp only [AH.zN, AH.zP] <;> omega) | fail) only [amR Tryd.prog ro X, amS, seval, reduceCtorEq, ty3, ty9, ty27, ty29, ty50, ty51, ty53, ty129, ty141, e12, e13]
  refine CondB.split (fun h => ?_) (fun h => ?_)
  ·have hil : i < x.1.length := by simpa using h
   obtain ⟨c, n1, b1, i1, c1, r0, r1, rr, z1, z2⟩ := hs1.source hil
   have rr' : rowK (s1.o + i * 2) 2 (A'.get s1.b) = some [.string x.1[i].1, .string x.1[i].2] := by rw [c1]; exact rr
   have st := wo_take_succ n hil
   have hwl := wo_length n (x.1.take i)
   rw [List.length_take] at hwl
   by_cases hn : x.1[i].1 = n
   ·simp (maxSteps := 2000000) (disch := first | omega | (simp only [AH.zN, AH.zP] <;> omega) | fail) only [amR Tryd.prog ro X, amS, seval, reduceCtorEq, ty3, ty9, ty27, ty29, ty50, ty51, ty53, ty129, ty141, e1, e2, e4, e5, e11, e12, e13, n1, rr', hn]
    rw [if_pos hn, List.append_nil] at st
    refine ⟨x.1.length - (i + 1), by omega, ⟨by simp only [AH.zP, AH.zN]; omega, fun b hb hm => ?_⟩, i + 1, by omega, rfl, by simp, s', ?_, ?_, ?_⟩
    ·rw [AH.gPo (by omega), AH.gNo (by omega)]; exact hX.get b hb hm
    ·rw [st]; exact hacc.ext (by ((repeat' (first | exact Ext.refl _ | assumption | refine Ext.trans ?_ (Ext.new _ _) | refine Ext.put ?_ ?_ _ | refine Ext.trans ?_ (by assumption))) <;> (first | omega | (simp only [AH.zN, AH.zP] <;> omega))))
    ·exact gO
    ·exact hub1.imp id fun h => (by first | omega | (simp only [AH.zN, AH.zP] <;> omega))
   ·rw [if_neg hn] at st
    simp (maxSteps := 2000000) (disch := first | omega | (simp only [AH.zN, AH.zP] <;> omega) | fail) only [amR Tryd.prog ro X, amS, seval, reduceCtorEq, ty3, ty9, ty27, ty29, ty50, ty51, ty53, ty129, ty141, e1, e2, e4, e5, e11, e12, e13, n1, rr', hn, gO]
    generalize hH : (A'.new _).put A'.size _ = H
    have hEH : Ext A' H := by rw [← hH]; exact (by ((repeat' (first | exact Ext.refl _ | assumption | refine Ext.trans ?_ (Ext.new _ _) | refine Ext.put ?_ ?_ _ | refine Ext.trans ?_ (by assumption))) <;> (first | omega | (simp only [AH.zN, AH.zP] <;> omega))))
    have hHz : H.size = A'.size + 1 := by rw [← hH]; rfl
    obtain ⟨s2', A8, hap, hs', hg, hz8, _⟩ := (hacc.ext hEH).lit (P := Tryd.prog) (ro := ro) (t := 50) (n := 1) (vs := [.string x.1[i].1, .string x.1[i].2]) (xs := [x.1[i]]) (by omega) (by simp only [ty50]; rfl) rfl (Reps.one (rep_Source.2 ⟨rfl, rfl, by show x.1[i].1.size < _; unfold BIG; omega, by show x.1[i].2.size < _; unfold BIG; omega⟩)) (.inr (by simp)) (by omega) (by omega)
    rw [show Dat.w TSource = 2 from rfl, hHz] at hap
    have gH := (hEH.get (A.size + 2) (by omega)).trans gO
    have gA8 := (hg.get (A.size + 2) (by omega) (.inl (by omega))).trans gH
    simp (maxSteps := 2000000) (disch := first | omega | (simp only [AH.zN, AH.zP] <;> omega) | fail) only [amR Tryd.prog ro X, amS, seval, reduceCtorEq, ty3, ty9, ty27, ty29, ty50, ty51, ty53, ty129, ty141, e1, e2, e4, e5, e11, e12, e13, hap, gH, gA8]
    refine ⟨x.1.length - (i + 1), by omega, ⟨(by first | omega | (simp only [AH.zN, AH.zP] <;> omega)), fun b hb hm => (AH.gPo (by simpa using hm)).trans ((hg.get b (by omega) (.inl hb)).trans ((hEH.get b (by omega)).trans (hX.get b hb hm)))⟩, i + 1, by omega, rfl, by simp, s2', ?_, rfl, .inr (by have := (hs'.lt (by simp)).2.2; exact (by first | omega | (simp only [AH.zN, AH.zP] <;> omega)))⟩
    rw [st]
    exact hs'.frame (Nat.le_refl _) (fun x hx h => AH.gPo (by rcases h with h | h; omega; simp at h))
  ·have hil : i = x.1.length := by simp at h; omega
   subst hil
   rw [List.take_length] at hacc
   have gb := (hX.get A.size (by omega) (by simp)).trans gb0
   simp (maxSteps := 2000000) (disch := first | omega | (simp only [AH.zN, AH.zP] <;> omega) | fail) only [amR Tryd.prog ro X, amS, seval, reduceCtorEq, ty3, ty9, ty27, ty29, ty50, ty51, ty53, ty129, ty141, e1, e2, e4, e5, gb, hl2]
   have hEA : Ext A A' := ⟨by have := hE0.size; omega, fun b hb => (hX.get b (by omega) (by simp; omega)).trans (hE0.get b hb)⟩
   obtain ⟨G1, hG1, fr1⟩ := hacc.fresh (Fresh.nil A0 A')
   refine Wp.loopC (fun k e H => ExtX [A.size + 2] A' H ∧ e 1 = .string n ∧ e 2 = .pointer (some ⟨A.size, 0, none⟩) ∧ e 4 = .pointer (some ⟨A.size + 1, 0, none⟩) ∧ e 5 = .pointer (some ⟨A.size + 2, 0, none⟩) ∧ e 29 = s2.v ∧ e 30 = .int .i64 x.2.length ∧
    ∃ i : Nat, i ≤ x.2.length ∧ k = x.2.length - i ∧ e 31 = .int .i64 i ∧ ∃ u G, Acc A'.size H u (wo n (x.2.take i)) G ∧ Fresh A' G H ∧ (u.nl = true ∨ u.b < H.size) ∧ H.get (A.size + 2) = .cells [s'.v, u.v] 2) (x.2.length - 0) ?_ ?_
   ·simp (maxSteps := 2000000) (disch := first | omega | (simp only [AH.zN, AH.zP] <;> omega) | fail) only [amV, amH, amQ, amL, amN Tryd.prog, amS, seval, reduceCtorEq, ty3, ty9, ty27, ty29, ty50, ty51, ty53, ty129, ty141, hl2, e1, e2, e4, e5]
    exact ⟨ExtX.refl _ _, 0, by omega, rfl, rfl, Sl.nil, [], .nil, Fresh.nil _ _, .inl rfl, gO⟩
   ·rintro k e H ⟨hXH, e1, e2, e4, e5, e29, e30, i, hi, rfl, e31, u, G, hacc2, hfr, hub, gO⟩
    have hzH := hXH.size
    have hs2 : SlR H s2 x.2 F2 := (h2.ext hEA).extx hXH (fun b hb => by have := h2.bound b hb; simp; omega)
    simp (maxSteps := 2000000) (disch := first | omega | (simp only [AH.zN, AH.zP] <;> omega) | fail) only [amR Tryd.prog ro X, amS, seval, reduceCtorEq, ty3, ty9, ty27, ty29, ty50, ty51, ty53, ty129, ty141, e30, e31]
    refine CondB.split (fun h => ?_) (fun h => ?_)
    ·have hil : i < x.2.length := by simpa using h
     obtain ⟨c, t, G0, n1, b1, i1, c1, r0, r1, rr, z1, ht, hG0, _⟩ := hs2.target hil
     have rr' : rowK (s2.o + i * 2) 2 (H.get s2.b) = some [.string x.2[i].1, t.v] := by rw [c1]; exact rr
     have st := wo_take_succ n hil
     have hwl := wo_length n (x.2.take i)
     rw [List.length_take] at hwl
     by_cases hn : x.2[i].1 = n
     ·simp (maxSteps := 2000000) (disch := first | omega | (simp only [AH.zN, AH.zP] <;> omega) | fail) only [amR Tryd.prog ro X, amS, seval, reduceCtorEq, ty3, ty9, ty27, ty29, ty50, ty51, ty53, ty129, ty141, e1, e2, e4, e5, e29, e30, e31, n1, rr', hn]
      rw [if_pos hn, List.append_nil] at st
      refine ⟨x.2.length - (i + 1), by omega, ⟨by simp only [AH.zP, AH.zN]; omega, fun b hb hm => ?_⟩, i + 1, by omega, rfl, by simp, u, G, ?_, ?_, ?_, ?_⟩
      ·rw [AH.gPo (by omega), AH.gNo (by omega)]; exact hXH.get b hb hm
      ·rw [st]; exact hacc2.ext (by ((repeat' (first | exact Ext.refl _ | assumption | refine Ext.trans ?_ (Ext.new _ _) | refine Ext.put ?_ ?_ _ | refine Ext.trans ?_ (by assumption))) <;> (first | omega | (simp only [AH.zN, AH.zP] <;> omega))))
      ·exact hfr.mono (Nat.le_refl _) (by first | omega | (simp only [AH.zN, AH.zP] <;> omega))
      ·exact hub.imp id fun h => (by first | omega | (simp only [AH.zN, AH.zP] <;> omega))
      ·exact gO
     ·rw [if_neg hn] at st
      simp (maxSteps := 2000000) (disch := first | omega | (simp only [AH.zN, AH.zP] <;> omega) | fail) only [amR Tryd.prog ro X, amS, seval, reduceCtorEq, ty3, ty9, ty27, ty29, ty50, ty51, ty53, ty129, ty141, e1, e2, e4, e5, e29, e30, e31, n1, rr', hn]
      generalize hJ : (H.new _).put H.size _ = J
      have hEJ : Ext H J := by rw [← hJ]; exact (by ((repeat' (first | exact Ext.refl _ | assumption | refine Ext.trans ?_ (Ext.new _ _) | refine Ext.put ?_ ?_ _ | refine Ext.trans ?_ (by assumption))) <;> (first | omega | (simp only [AH.zN, AH.zP] <;> omega))))
      have hJz : J.size = H.size + 1 := by rw [← hJ]; rfl
      have gJ : J.get H.size = .cells [.string x.2[i].1, t.v] 2 := by rw [← hJ]; exact AH.gPs _ _ _
      have gJO := (hEJ.get (A.size + 2) (by omega)).trans gO
      refine WpH (J.size) [6] (by kernel_rfl) (.inl (by kernel_rfl)) ?_
      simp (maxSteps := 2000000) (disch := first | omega | (simp only [AH.zN, AH.zP] <;> omega) | fail) only [amX Tryd.prog ro X, amR Tryd.prog ro X, amS, seval, reduceCtorEq, ty3, ty9, ty27, ty29, ty50, ty51, ty53, ty129, ty141, e1, e2, e4, e5, e29, e30, e31, gJ, gJO]
      refine (Copy.impl.copyProgram_a _ (by first | omega | (simp only [AH.zN, AH.zP] <;> omega)) t x.2[i].2 G0 (ht.ext hEJ) (hp _ (List.getElem_mem hil))).mono ?_
      rintro r A3 ⟨t3, G3, rfl, q3, fr3, hE3⟩
      have v3 := hE3.size
      obtain ⟨u2, A8, hap, hs', hg, hz8, _⟩ := ((hacc2.ext hEJ).ext hE3).lit (P := Tryd.prog) (ro := ro) (t := 51) (n := 1) (vs := [.string x.2[i].1, t3.v]) (xs := [x.2[i]]) (Gx := G3) (by omega) (by simp only [ty51]; rfl) rfl (Reps.one (rep_Target.2 ⟨t3, G3, rfl, rfl, by show x.2[i].1.size < _; unfold BIG; omega, q3⟩)) (hub.imp id fun h hm => by have := fr3.lo _ hm; omega) (by omega) (by omega)
      rw [show Dat.w TTarget = 2 from rfl] at hap
      have gA3 := (hE3.get (A.size + 2) (by omega)).trans gJO
      have gA8 := (hg.get (A.size + 2) (by omega) (.inl (by omega))).trans gA3
      simp (maxSteps := 2000000) (disch := first | omega | (simp only [AH.zN, AH.zP] <;> omega) | fail) only [amX Tryd.prog ro X, amR Tryd.prog ro X, amS, seval, reduceCtorEq, ty3, ty9, ty27, ty29, ty50, ty51, ty53, ty129, ty141, e1, e2, e4, e5, e29, e30, e31, hap, gA3, gA8]
      obtain ⟨w1, w2, w3⟩ := hs'.lt (by simp)
      refine ⟨fun b hb => hE3.get b hb, x.2.length - (i + 1), by omega, ⟨(by first | omega | (simp only [AH.zN, AH.zP] <;> omega)), fun b hb hm => (AH.gPo (by simpa using hm)).trans ((hg.get b (by omega) (.inl hb)).trans ((hE3.get b (by omega)).trans ((hEJ.get b (by omega)).trans (hXH.get b hb hm))))⟩, i + 1, by omega, rfl, by simp, u2, G ++ G3, ?_, ?_, .inr (by first | omega | (simp only [AH.zN, AH.zP] <;> omega)), rfl⟩
      ·rw [st]
       refine hs'.frame (Nat.le_refl _) (fun x hx h => AH.gPo ?_)
       rcases h with ⟨_, h, _⟩ | h
       ·omega
       ·rcases List.mem_append.1 h with h | h
        ·have := hfr.lo x h; omega
        ·have := fr3.lo x h; omega
      ·exact ((hfr.mono (Nat.le_refl _) (by omega)).append fr3 (by omega) (by omega)).mono (Nat.le_refl _) (by first | omega | (simp only [AH.zN, AH.zP] <;> omega))
    ·have hil : i = x.2.length := by simp at h; omega
     subst hil
     rw [List.take_length] at hacc2
     have gr := ((hXH.get (A.size + 1) (by omega) (by simp)).trans (hX.get (A.size + 1) (by omega) (by simp))).trans gr0
     simp (maxSteps := 2000000) (disch := first | omega | (simp only [AH.zN, AH.zP] <;> omega) | fail) only [amR Tryd.prog ro X, amS, seval, reduceCtorEq, ty3, ty9, ty27, ty29, ty50, ty51, ty53, ty129, ty141, e1, e2, e4, e5, gO, gr]
     obtain ⟨G2, hG2, fr2⟩ := hacc2.fresh hfr
     have hEH : Ext A H := ⟨by omega, fun b hb => (hXH.get b (by omega) (by simp; omega)).trans (hEA.get b hb)⟩
     have hXP := (ExtX.refl [A.size + 1] H).put (b := A.size + 1) (by simp) (.cells [s'.v, u.v] 2)
     refine ⟨s', u, G1, G2, rfl, ?_, ?_, ?_, (by ((repeat' (first | exact Ext.refl _ | assumption | refine Ext.trans ?_ (Ext.new _ _) | refine Ext.put ?_ ?_ _ | refine Ext.trans ?_ (by assumption))) <;> (first | omega | (simp only [AH.zN, AH.zP] <;> omega)))), A'.size, G, by omega, (by first | omega | (simp only [AH.zN, AH.zP] <;> omega)), ?_, hub1, fun b hb => by have := fr1.hi b hb; omega, ?_, hub.imp id fun h => (by first | omega | (simp only [AH.zN, AH.zP] <;> omega)), ?_, ?_, hfr.nodup⟩
     ·exact (hG1.extx hXH (fun b hb => by have := fr1.lo b hb; simp; omega)).extx ((ExtX.refl [A.size + 1] H).put (by simp) _) (fun b hb => by have := fr1.lo b hb; simp; omega)
     ·exact hG2.extx ((ExtX.refl [A.size + 1] H).put (by simp) _) (fun b hb => by have := fr2.lo b hb; simp; omega)
     ·exact ((fr1.append fr2 (by omega) (by omega)).mono (by omega) (by first | omega | (simp only [AH.zN, AH.zP] <;> omega)))
     ·refine acc_lower (hacc.frame (by simp only [AH.zP]; omega) fun y hy hm => ?_) (show A.size ≤ A0.size by omega)
      have hy3 : A0.size ≤ y := by rcases hm with h | h; exact h.2.1; cases h
      exact (AH.gPo (by omega)).trans (hXH.get y hy (by simp; omega))
     ·refine hacc2.frame (by simp only [AH.zP]; omega) fun y hy hm => AH.gPo ?_
      rcases hm with h | h
      ·have := h.2.1; omega
      ·have := hfr.lo y h; omega
     ·intro b hb; exact fr2.lo b hb
     ·intro b hb; have h1 := hfr.lo b hb; have h2 := hfr.hi b hb; exact ⟨h1, (by first | omega | (simp only [AH.zN, AH.zP] <;> omega))⟩
theorem l3Without_a (A : AH) (hro : ro ≤ A.size) (s1 s2 : Sl) (x : TSpace) (F1 F2 : List Nat) (h1 : SlR A s1 x.1 F1) (h2 : SlR A s2 x.2 F2) (hl1' : x.1.length < 4294967296) (hl2' : x.2.length < 4294967296) (hp : ∀ t ∈ x.2, t.2.length < 4294967296) (n : ByteArray) :
 ACalls Tryd.prog ro X 73 [.agg #[s1.v, s2.v], .string n] A (fun r A' => ∃ t1 t2 G1 G2, r = .ret (.agg #[t1.v, t2.v]) ∧ SlR A' t1 (wo n x.1) G1 ∧ SlR A' t2 (wo n x.2) G2 ∧ Fresh A (G1 ++ G2) A' ∧ Ext A A') := by
 refine ACalls.enterQ (rs := [.cell 4 53]) Tryd.func73 rfl (by kernel_rfl) rfl ?_
 have hl1 := h1.len
 have hl2 := h2.len
 simp (maxSteps := 2000000) (disch := first | omega | (simp only [AH.zN, AH.zP] <;> omega) | fail) only [amR Tryd.prog ro X, amS, seval, reduceCtorEq, ty3, ty9, ty27, ty29, ty50, ty51, ty53, ty129, ty141, hl1, hl2]
 generalize hA0 : AH.put (((A.new _).new _).new _) _ _ = A0
 have hz0 : A0.size = A.size + 3 := by rw [← hA0]; rfl
 have hE0 : Ext A A0 := by rw [← hA0]; exact (by ((repeat' (first | exact Ext.refl _ | assumption | refine Ext.trans ?_ (Ext.new _ _) | refine Ext.put ?_ ?_ _ | refine Ext.trans ?_ (by assumption))) <;> (first | omega | (simp only [AH.zN, AH.zP] <;> omega))))
 have go0 : A0.get (A.size + 2) = .cells [Sl.nil.v, Sl.nil.v] 2 := by rw [← hA0]; exact AH.gPs _ _ _
 have gr0 : A0.get (A.size + 1) = .cells [Sl.nil.v, Sl.nil.v] 2 := by rw [← hA0, AH.gPo (by omega), AH.gNo (by simp only [AH.zN]; omega)]; exact AH.gNs _ _
 have gb0 : A0.get A.size = .cells [s1.v, s2.v] 2 := by rw [← hA0, AH.gPo (by omega), AH.gNo (by simp only [AH.zN]; omega), AH.gNo (by simp only [AH.zN]; omega)]; exact AH.gNs _ _
 refine Wp.loopC (fun k e A' => ExtX [A.size + 2] A0 A' ∧ e 1 = .string n ∧ e 2 = .pointer (some ⟨A.size, 0, none⟩) ∧ e 4 = .pointer (some ⟨A.size + 1, 0, none⟩) ∧ e 5 = .pointer (some ⟨A.size + 2, 0, none⟩) ∧
  ∃ i : Nat, i ≤ x.1.length ∧ k = x.1.length - i ∧ e 6 = .int .i64 i ∧ ∃ s', Acc A0.size A' s' (wo n (x.1.take i)) [] ∧ A'.get (A.size + 2) = .cells [s'.v, Sl.nil.v] 2) (x.1.length - 0) ?_ ?_
 ·simp (maxSteps := 2000000) (disch := first | omega | (simp only [AH.zN, AH.zP] <;> omega) | fail) only [amV, amH, amQ, amL, amN Tryd.prog, amS, seval, reduceCtorEq, ty3, ty9, ty27, ty29, ty50, ty51, ty53, ty129, ty141, hl1]
  exact ⟨ExtX.refl _ _, 0, by omega, rfl, rfl, Sl.nil, .nil, go0⟩
 ·rintro k e A' ⟨hX, e1, e2, e4, e5, i, hi, rfl, e6, s', hacc, gO⟩
  have hz := hX.size
  have hs1 : SlR A' s1 x.1 F1 := (h1.ext hE0).extx hX (fun b hb => by have := h1.bound b hb; simp; omega)
  have gb := (hX.get A.size (by omega) (by simp)).trans gb0
  simp (maxSteps := 2000000) (disch := first | omega | (simp only [AH.zN, AH.zP] <;> omega) | fail) only [amR Tryd.prog ro X, amS, seval, reduceCtorEq, ty3, ty9, ty27, ty29, ty50, ty51, ty53, ty129, ty141, e2, e6, gb, hl1]
  refine CondB.split (fun h => ?_) (fun h => ?_)
  ·have hil : i < x.1.length := by simpa using h
   obtain ⟨c, n1, b1, i1, c1, r0, r1, rr, z1, z2⟩ := hs1.source hil
   have rr' : rowK (s1.o + i * 2) 2 (A'.get s1.b) = some [.string x.1[i].1, .string x.1[i].2] := by rw [c1]; exact rr
   have st := wo_take_succ n hil
   have hwl := wo_length n (x.1.take i)
   rw [List.length_take] at hwl
   by_cases hn : x.1[i].1 = n
   ·simp (maxSteps := 2000000) (disch := first | omega | (simp only [AH.zN, AH.zP] <;> omega) | fail) only [amR Tryd.prog ro X, amS, seval, reduceCtorEq, ty3, ty9, ty27, ty29, ty50, ty51, ty53, ty129, ty141, e1, e2, e4, e5, e6, n1, gb, hl1, c1, r0, hn]
    rw [if_pos hn, List.append_nil] at st
    exact ⟨x.1.length - (i + 1), by omega, hX, i + 1, by omega, rfl, by simp, s', by rw [st]; exact hacc, gO⟩
   ·rw [if_neg hn] at st
    obtain ⟨s2', A8, hap, hs', hg, hz8, _⟩ := hacc.lit (P := Tryd.prog) (ro := ro) (t := 50) (n := 1) (vs := [.string x.1[i].1, .string x.1[i].2]) (xs := [x.1[i]]) (by omega) (by simp only [ty50]; rfl) rfl (Reps.one (rep_Source.2 ⟨rfl, rfl, by show x.1[i].1.size < _; unfold BIG; omega, by show x.1[i].2.size < _; unfold BIG; omega⟩)) (.inr (by simp)) (by omega) (by omega)
    rw [show Dat.w TSource = 2 from rfl] at hap
    have gA8 := (hg.get (A.size + 2) (by omega) (.inl (by omega))).trans gO
    simp (maxSteps := 2000000) (disch := first | omega | (simp only [AH.zN, AH.zP] <;> omega) | fail) only [amR Tryd.prog ro X, amS, seval, reduceCtorEq, ty3, ty9, ty27, ty29, ty50, ty51, ty53, ty129, ty141, e1, e2, e4, e5, e6, n1, gb, hl1, c1, r0, hn]
    refine WpH (A'.size) [] (by kernel_rfl) (.inl (by kernel_rfl)) ?_
    simp (maxSteps := 2000000) (disch := first | omega | (simp only [AH.zN, AH.zP] <;> omega) | fail) only [amX Tryd.prog ro X, amR Tryd.prog ro X, amS, seval, reduceCtorEq, ty3, ty9, ty27, ty29, ty50, ty51, ty53, ty129, ty141, e1, e2, e4, e5, e6, hap, gO, gA8, gb, hl1, n1, rr', b1]
    refine ⟨x.1.length - (i + 1), by omega, ⟨(by first | omega | (simp only [AH.zN, AH.zP] <;> omega)), fun b hb hm => (AH.gPo (by simpa using hm)).trans ((hg.get b (by omega) (.inl hb)).trans (hX.get b hb hm))⟩, i + 1, by omega, rfl, by simp, s2', ?_, rfl⟩
    rw [st]
    exact hs'.frame (Nat.le_refl _) (fun x hx h => AH.gPo (by rcases h with h | h; omega; simp at h))
  ·have hil : i = x.1.length := by simp at h; omega
   subst hil
   rw [List.take_length] at hacc
   simp (maxSteps := 2000000) (disch := first | omega | (simp only [AH.zN, AH.zP] <;> omega) | fail) only [amR Tryd.prog ro X, amS, seval, reduceCtorEq, ty3, ty9, ty27, ty29, ty50, ty51, ty53, ty129, ty141, e1, e2, e4, e5, gb, hl2]
   have hEA : Ext A A' := ⟨by have := hE0.size; omega, fun b hb => (hX.get b (by omega) (by simp; omega)).trans (hE0.get b hb)⟩
   obtain ⟨G1, hG1, fr1⟩ := hacc.fresh (Fresh.nil A0 A')
   refine Wp.loopC (fun k e H => ExtX [A.size + 2] A' H ∧ e 1 = .string n ∧ e 2 = .pointer (some ⟨A.size, 0, none⟩) ∧ e 4 = .pointer (some ⟨A.size + 1, 0, none⟩) ∧ e 5 = .pointer (some ⟨A.size + 2, 0, none⟩) ∧
    ∃ i : Nat, i ≤ x.2.length ∧ k = x.2.length - i ∧ e 7 = .int .i64 i ∧ ∃ u G, Acc A'.size H u (wo n (x.2.take i)) G ∧ Fresh A' G H ∧ (u.nl = true ∨ u.b < H.size) ∧ H.get (A.size + 2) = .cells [s'.v, u.v] 2) (x.2.length - 0) ?_ ?_
   ·simp (maxSteps := 2000000) (disch := first | omega | (simp only [AH.zN, AH.zP] <;> omega) | fail) only [amV, amH, amQ, amL, amN Tryd.prog, amS, seval, reduceCtorEq, ty3, ty9, ty27, ty29, ty50, ty51, ty53, ty129, ty141, hl2, e1, e2, e4, e5]
    exact ⟨ExtX.refl _ _, 0, by omega, rfl, rfl, Sl.nil, [], .nil, Fresh.nil _ _, .inl rfl, gO⟩
   ·rintro k e H ⟨hXH, e1, e2, e4, e5, i, hi, rfl, e7, u, G, hacc2, hfr, hub, gO⟩
    have hzH := hXH.size
    have hs2 : SlR H s2 x.2 F2 := (h2.ext hEA).extx hXH (fun b hb => by have := h2.bound b hb; simp; omega)
    have gbH := (hXH.get A.size (by omega) (by simp)).trans gb
    simp (maxSteps := 2000000) (disch := first | omega | (simp only [AH.zN, AH.zP] <;> omega) | fail) only [amR Tryd.prog ro X, amS, seval, reduceCtorEq, ty3, ty9, ty27, ty29, ty50, ty51, ty53, ty129, ty141, e2, e7, gbH, hl2]
    refine CondB.split (fun h => ?_) (fun h => ?_)
    ·have hil : i < x.2.length := by simpa using h
     obtain ⟨c, t, G0, n1, b1, i1, c1, r0, r1, rr, z1, ht, hG0, _⟩ := hs2.target hil
     have st := wo_take_succ n hil
     have hwl := wo_length n (x.2.take i)
     rw [List.length_take] at hwl
     by_cases hn : x.2[i].1 = n
     ·simp (maxSteps := 2000000) (disch := first | omega | (simp only [AH.zN, AH.zP] <;> omega) | fail) only [amR Tryd.prog ro X, amS, seval, reduceCtorEq, ty3, ty9, ty27, ty29, ty50, ty51, ty53, ty129, ty141, e1, e2, e4, e5, e7, n1, gbH, hl2, c1, r0, hn]
      rw [if_pos hn, List.append_nil] at st
      exact ⟨x.2.length - (i + 1), by omega, hXH, i + 1, by omega, rfl, by simp, u, G, by rw [st]; exact hacc2, hfr, hub, gO⟩
     ·rw [if_neg hn] at st
      simp (maxSteps := 2000000) (disch := first | omega | (simp only [AH.zN, AH.zP] <;> omega) | fail) only [amR Tryd.prog ro X, amS, seval, reduceCtorEq, ty3, ty9, ty27, ty29, ty50, ty51, ty53, ty129, ty141, e1, e2, e4, e5, e7, n1, gbH, hl2, c1, r0, hn]
      refine WpH (H.size) [14] (by kernel_rfl) (.inl (by kernel_rfl)) ?_
      simp (maxSteps := 2000000) (disch := first | omega | (simp only [AH.zN, AH.zP] <;> omega) | fail) only [amX Tryd.prog ro X, amR Tryd.prog ro X, amS, seval, reduceCtorEq, ty3, ty9, ty27, ty29, ty50, ty51, ty53, ty129, ty141, e1, e2, e4, e5, e7, gO, gbH, hl2, n1, c1, r0, r1, take1 r1, b1]
      refine (Copy.spec.l3Program_a _ (by first | omega | (simp only [AH.zN, AH.zP] <;> omega)) t x.2[i].2 G0 ht (hp _ (List.getElem_mem hil))).mono ?_
      rintro r A3 ⟨t3, G3, rfl, q3, fr3, hE3⟩
      have v3 := hE3.size
      obtain ⟨u2, A8, hap, hs', hg, hz8, _⟩ := (hacc2.ext hE3).lit (P := Tryd.prog) (ro := ro) (t := 51) (n := 1) (vs := [.string x.2[i].1, t3.v]) (xs := [x.2[i]]) (Gx := G3) (by omega) (by simp only [ty51]; rfl) rfl (Reps.one (rep_Target.2 ⟨t3, G3, rfl, rfl, by show x.2[i].1.size < _; unfold BIG; omega, q3⟩)) (hub.imp id fun h hm => by have := fr3.lo _ hm; omega) (by omega) (by omega)
      rw [show Dat.w TTarget = 2 from rfl] at hap
      have gA3 := (hE3.get (A.size + 2) (by omega)).trans gO
      have gA8 := (hg.get (A.size + 2) (by omega) (.inl (by omega))).trans gA3
      simp (maxSteps := 2000000) (disch := first | omega | (simp only [AH.zN, AH.zP] <;> omega) | fail) only [amX Tryd.prog ro X, amR Tryd.prog ro X, amS, seval, reduceCtorEq, ty3, ty9, ty27, ty29, ty50, ty51, ty53, ty129, ty141, e1, e2, e4, e5, e7, hap, gA3, gA8]
      obtain ⟨w1, w2, w3⟩ := hs'.lt (by simp)
      refine ⟨fun b hb => hE3.get b hb, x.2.length - (i + 1), by omega, ⟨(by first | omega | (simp only [AH.zN, AH.zP] <;> omega)), fun b hb hm => (AH.gPo (by simpa using hm)).trans ((hg.get b (by omega) (.inl hb)).trans ((hE3.get b (by omega)).trans (hXH.get b hb hm)))⟩, i + 1, by omega, rfl, by simp, u2, G ++ G3, ?_, ?_, .inr (by first | omega | (simp only [AH.zN, AH.zP] <;> omega)), rfl⟩
      ·rw [st]
       refine hs'.frame (Nat.le_refl _) (fun x hx h => AH.gPo ?_)
       rcases h with ⟨_, h, _⟩ | h
       ·omega
       ·rcases List.mem_append.1 h with h | h
        ·have := hfr.lo x h; omega
        ·have := fr3.lo x h; omega
      ·exact ((hfr.mono (Nat.le_refl _) (by omega)).append fr3 (by omega) (by omega)).mono (Nat.le_refl _) (by first | omega | (simp only [AH.zN, AH.zP] <;> omega))
    ·have hil : i = x.2.length := by simp at h; omega
     subst hil
     rw [List.take_length] at hacc2
     have gr := ((hXH.get (A.size + 1) (by omega) (by simp)).trans (hX.get (A.size + 1) (by omega) (by simp))).trans gr0
     simp (maxSteps := 2000000) (disch := first | omega | (simp only [AH.zN, AH.zP] <;> omega) | fail) only [amR Tryd.prog ro X, amS, seval, reduceCtorEq, ty3, ty9, ty27, ty29, ty50, ty51, ty53, ty129, ty141, e1, e2, e4, e5, gO, gr]
     obtain ⟨G2, hG2, fr2⟩ := hacc2.fresh hfr
     have hEH : Ext A H := ⟨by omega, fun b hb => (hXH.get b (by omega) (by simp; omega)).trans (hEA.get b hb)⟩
     refine ⟨s', u, G1, G2, rfl, ?_, ?_, ?_, (by ((repeat' (first | exact Ext.refl _ | assumption | refine Ext.trans ?_ (Ext.new _ _) | refine Ext.put ?_ ?_ _ | refine Ext.trans ?_ (by assumption))) <;> (first | omega | (simp only [AH.zN, AH.zP] <;> omega))))⟩
     ·exact (hG1.extx hXH (fun b hb => by have := fr1.lo b hb; simp; omega)).extx ((ExtX.refl [A.size + 1] H).put (by simp) _) (fun b hb => by have := fr1.lo b hb; simp; omega)
     ·exact hG2.extx ((ExtX.refl [A.size + 1] H).put (by simp) _) (fun b hb => by have := fr2.lo b hb; simp; omega)
     ·exact ((fr1.append fr2 (by omega) (by omega)).mono (by omega) (by first | omega | (simp only [AH.zN, AH.zP] <;> omega)))
theorem size_a (A : AH) (hro : ro ≤ A.size) (s1 s2 : Sl) (h1 : s1.len < 1152921504606846976) (h2 : s2.len < 1152921504606846976) : ACalls Tryd.prog ro X 79 [.agg #[s1.v, s2.v]] A (fun r A' => r = .ret (.int .i64 (s1.len + s2.len)) ∧ Ext A A') := by
 refine ACalls.enterQ (rs := [.tmp 2]) Tryd.func79 rfl (by kernel_rfl) rfl ?_
 simp (maxSteps := 2000000) (disch := first | omega | (simp only [AH.zN, AH.zP] <;> omega) | fail) only [amR Tryd.prog ro X, amS, seval, reduceCtorEq, ty3, ty50, ty51, ty53, ty129, ty141]
 exact Ext.new _ _
theorem zeroSp_rep (A : AH) : Dat.rep A zeroSp [Sl.nil.v, Sl.nil.v] [] := rep_Space.2 ⟨_, _, _, _, rfl, rfl, .nil rfl rfl rfl, .nil rfl rfl rfl⟩
end Go.Proofs.YtjlbcofopapajaaDoor.Amu.Drop
