import Derived.Test.YtjlbcofopapajaaDoorAmuTy
import Derived.Test.YtjlbcofopapajaaDoorAmRun
import Derived.Test.YtjlbcofopapajaaDoorAmPutS
import Derived.Test.YtjlbcofopapajaaDoorAmSort
import Derived.Test.YtjlbcofopapajaaDoorAmuCopy
import Derived.Test.YtjlbcofopapajaaDoorAmuStore
import Derived.Test.YtjlbcofopapajaaDoorAmuSpace
import Derived.Test.YtjlbcofopapajaaDoorAmuSpace2
import Derived.Test.YtjlbcofopapajaaDoorAmuDrop
namespace Go.Proofs.YtjlbcofopapajaaDoor.Amu.PutSI
open Go Go.AM Go.Proofs
set_option linter.all false
open Ty
variable {ro : Nat} {X : FuncId → List Value → AH → ARes → AH → Prop}
set_option maxRecDepth 10000
theorem iface_sl (A : AH) (t : TypeId) (v : Value) (r : List Value) : ifaceK A t v (some r) (some .slice) = some (.iface t v, A) := rfl
theorem implSrc_a (hXS : ∀ f args A r A', SortX 80 [(50, 81, 0)] ro f args A r A' → X f args A r A') (A : AH) (hro : ro ≤ A.size) (hT : Tab 0 A) (s1 s2 : Sl) (x : TSpace) (F1 F2 : List Nat) (h1 : SlR A s1 x.1 F1) (h2 : SlR A s2 x.2 F2) (hl1' : x.1.length < 4294967296) (hl2' : x.2.length < 4294967296) (hp : ∀ t ∈ x.2, t.2.length < 4294967296) (n t : ByteArray) (hn : n.size < BIG) (ht : t.size < BIG) :
 ACalls Tryd.prog ro X 24 [.agg #[s1.v, s2.v], .string n, .string t] A (fun r A' => ∃ cs G, r = .ret (.tuple #[.agg cs.toArray, .int .i64 (putSrcR x n t).2]) ∧ Dat.rep A' (putSrcR x n t).1 cs G ∧ Fresh A G A' ∧ Ext A A') := by
 refine ACalls.enterQ (rs := [.cell 6 53, .tmp 7]) Tryd.func24 rfl (by kernel_rfl) rfl ?_
 have hl1 := h1.len
 have hl2 := h2.len
 simp (maxSteps := 2000000) (disch := first | omega | (simp only [AH.zN, AH.zP] <;> omega) | fail) only [amR Tryd.prog ro X, amS, seval, reduceCtorEq, ty3, ty4, ty9, ty50, ty51, ty53, ty129]
 refine (Space2.implCheck_a _ (by first | omega | (simp only [AH.zN, AH.zP] <;> omega)) (hT.ext (by ((repeat' (first | exact Ext.refl _ | assumption | refine Ext.trans ?_ (Ext.new _ _) | refine Ext.put ?_ ?_ _ | refine Ext.trans ?_ (by assumption))) <;> (first | omega | (simp only [AH.zN, AH.zP] <;> omega))))) s1 s2 x F1 F2 (h1.ext (by ((repeat' (first | exact Ext.refl _ | assumption | refine Ext.trans ?_ (Ext.new _ _) | refine Ext.put ?_ ?_ _ | refine Ext.trans ?_ (by assumption))) <;> (first | omega | (simp only [AH.zN, AH.zP] <;> omega))))) (h2.ext (by ((repeat' (first | exact Ext.refl _ | assumption | refine Ext.trans ?_ (Ext.new _ _) | refine Ext.put ?_ ?_ _ | refine Ext.trans ?_ (by assumption))) <;> (first | omega | (simp only [AH.zN, AH.zP] <;> omega))))) (by omega) (by omega)).mono ?_
 rintro r A1 ⟨rfl, hE1⟩
 have v1 := hE1.size
 simp only [AH.zN] at v1
 by_cases k1 : spaceCode x = 0
 ·simp (maxSteps := 2000000) (disch := first | omega | (simp only [AH.zN, AH.zP] <;> omega) | fail) only [amR Tryd.prog ro X, amS, seval, reduceCtorEq, ty3, ty4, ty9, ty50, ty51, ty53, ty129, hE1.get, k1]
  refine (Store.impl.isName_a _ n).mono ?_
  rintro r A2 ⟨rfl, rfl⟩
  by_cases k2 : NameOk n
  ·by_cases k3 : (2000 : Int) < t.size
   ·have kk : ¬ NameOk n ∨ 2000 < t.size := .inr (by omega)
    simp (maxSteps := 2000000) (disch := first | omega | (simp only [AH.zN, AH.zP] <;> omega) | fail) only [amR Tryd.prog ro X, amS, seval, reduceCtorEq, ty3, ty4, ty9, ty50, ty51, ty53, ty129, hE1.get, k2, k3]
    exact ⟨_, _, by rw [putSrcR_2 k1 kk], by rw [putSrcR_2 k1 kk]; exact Drop.zeroSp_rep _, Fresh.nil _ _, (by ((repeat' (first | exact Ext.refl _ | assumption | refine Ext.trans ?_ (Ext.new _ _) | refine Ext.put ?_ ?_ _ | refine Ext.trans ?_ (by assumption))) <;> (first | omega | (simp only [AH.zN, AH.zP] <;> omega))))⟩
   ·have kk : ¬ (¬ NameOk n ∨ 2000 < t.size) := fun h => h.elim (fun h => h k2) (fun h => k3 (by omega))
    simp (maxSteps := 2000000) (disch := first | omega | (simp only [AH.zN, AH.zP] <;> omega) | fail) only [amR Tryd.prog ro X, amS, seval, reduceCtorEq, ty3, ty4, ty9, ty50, ty51, ty53, ty129, hE1.get, k2, k3]
    refine (Drop.without2_a _ (by first | omega | (simp only [AH.zN, AH.zP] <;> omega)) s1 s2 x F1 F2 (h1.ext (by ((repeat' (first | exact Ext.refl _ | assumption | refine Ext.trans ?_ (Ext.new _ _) | refine Ext.put ?_ ?_ _ | refine Ext.trans ?_ (by assumption))) <;> (first | omega | (simp only [AH.zN, AH.zP] <;> omega))))) (h2.ext (by ((repeat' (first | exact Ext.refl _ | assumption | refine Ext.trans ?_ (Ext.new _ _) | refine Ext.put ?_ ?_ _ | refine Ext.trans ?_ (by assumption))) <;> (first | omega | (simp only [AH.zN, AH.zP] <;> omega))))) hl1' hl2' hp n).mono ?_
    rintro r A3 ⟨t1, t2, G1, G2, rfl, q1, q2, fr, hE3, K, H, w1, w2, w3, w4, w5, w6, w7, w8, w9⟩
    have v3 := hE3.size
    have u1 := (hE3.get A.size (by first | omega | (simp only [AH.zN, AH.zP] <;> omega))).trans (hE1.get A.size (by first | omega | (simp only [AH.zN, AH.zP] <;> omega)))
    have u2 := (hE3.get (A.size + 1) (by first | omega | (simp only [AH.zN, AH.zP] <;> omega))).trans (hE1.get (A.size + 1) (by first | omega | (simp only [AH.zN, AH.zP] <;> omega)))
    simp (maxSteps := 2000000) (disch := first | omega | (simp only [AH.zN, AH.zP] <;> omega) | fail) only [amR Tryd.prog ro X, amS, seval, reduceCtorEq, ty3, ty4, ty9, ty50, ty51, ty53, ty129]
    generalize hB : AH.put (A3.new _) A3.size _ = B3
    have zB : B3.size = A3.size + 1 := by rw [← hB]; rfl
    have hEB : Ext A3 B3 := by rw [← hB]; exact (by ((repeat' (first | exact Ext.refl _ | assumption | refine Ext.trans ?_ (Ext.new _ _) | refine Ext.put ?_ ?_ _ | refine Ext.trans ?_ (by assumption))) <;> (first | omega | (simp only [AH.zN, AH.zP] <;> omega))))
    have gB : B3.get A3.size = .cells [t1.v, t2.v] 2 := by rw [← hB]; exact AH.gPs _ _ _
    clear hB
    have hb1 : t1.b < K := acc_b w3 (by omega) w4
    obtain ⟨ha1, ha2, h200⟩ := space_asc k1
    have m1 := wo_length n x.1
    have m2 := wo_length n x.2
    have l1 := w3.len
    have l2 := q2.len
    obtain ⟨s', A5, hap, hs', hg, hz5, hor⟩ := (w3.ext hEB).lit (P := Tryd.prog) (ro := ro) (t := 50) (n := 1) (vs := [.string n, .string t]) (xs := [(n, t)]) (by omega) (by simp only [ty50]; rfl) rfl (Reps.one (rep_Source.2 ⟨rfl, rfl, hn, ht⟩)) (.inr (by simp)) (by omega) (by omega)
    rw [show Dat.w TSource = 2 from rfl, zB] at hap
    have g5 := (hg.get A3.size (by omega) (.inr (by omega))).trans gB
    have hs2 : AM.Acc A2.size A5 s' (wo n x.1 ++ [(n, t)]) [] := hs'
    have hl' := hs2.len
    rw [List.length_append, List.length_singleton] at hl'
    obtain ⟨y1, y2, y3⟩ := hs2.lt (by simp)
    have hbk : s'.b < K ∨ A3.size < s'.b := by rcases hor with h | h <;> omega
    simp (maxSteps := 2000000) (disch := first | omega | (simp only [AH.zN, AH.zP] <;> omega) | fail) only [amR Tryd.prog ro X, amS, seval, reduceCtorEq, ty3, ty4, ty9, ty50, ty51, ty53, ty129, hap, gB, g5]
    generalize hA6 : AH.put A5 A3.size _ = A6
    have z6 : A6.size = A5.size := by rw [← hA6]; rfl
    have g6 : A6.get A3.size = .cells [s'.v, t2.v] 2 := by rw [← hA6]; exact AH.gPs _ _ _
    have o6 : ∀ b, b ≠ A3.size → A6.get b = A5.get b := fun b hb => by rw [← hA6]; exact AH.gPo hb
    clear hA6
    refine (Drop.size_a A6 (by omega) s' t2 (by omega) (by omega)).mono ?_
    rintro r A7 ⟨rfl, hE7⟩
    have z7 := hE7.size
    have g7 := (hE7.get A3.size (by omega)).trans g6
    have lo7 : ∀ b, b < A5.size → b ≠ A3.size → A7.get b = A5.get b := fun b hb hne => (hE7.get b (by omega)).trans (o6 b hne)
    have lo3 : ∀ b, b < A3.size → b ≠ t1.b ∨ b < A2.size → A7.get b = A3.get b := fun b hb hne => (lo7 b (by omega) (by omega)).trans ((hg.get b (by omega) (by omega)).trans (hEB.get b hb))
    have r1 := (lo3 (A.size + 1) (by omega) (by omega)).trans u2
    by_cases k4 : 200 ≤ (wo n x.1).length + (wo n x.2).length
    ·have k5 : (200 : Int) < (s'.len : Int) + t2.len := by omega
     simp (maxSteps := 2000000) (disch := first | omega | (simp only [AH.zN, AH.zP] <;> omega) | fail) only [amR Tryd.prog ro X, amS, seval, reduceCtorEq, ty3, ty4, ty9, ty50, ty51, ty53, ty129, k5, r1]
     exact ⟨_, _, by rw [putSrcR_3 k1 kk k4], by rw [putSrcR_3 k1 kk k4]; exact Drop.zeroSp_rep _, Fresh.nil _ _, ⟨(by first | omega | (simp only [AH.zN, AH.zP] <;> omega)), fun b hb => by rw [AH.gPo (by omega), lo3 b (by omega) (by omega), hE3.get b (by omega), hE1.get b (by first | omega | (simp only [AH.zN, AH.zP] <;> omega)), AH.gNo (by simp only [AH.zN]; omega), AH.gNo (by omega)]⟩⟩
    ·have k5 : ¬ (200 : Int) < (s'.len : Int) + t2.len := by omega
     simp (maxSteps := 2000000) (disch := first | omega | (simp only [AH.zN, AH.zP] <;> omega) | fail) only [amR Tryd.prog ro X, amS, seval, reduceCtorEq, ty3, ty4, ty9, ty50, ty51, ty53, ty129, k5, g7, iface_sl, List.map_toArray]
     have hacc7 : AM.Acc A2.size A7 s' (wo n x.1 ++ [(n, t)]) [] := hs2.frame (by omega) fun b hb hm => by
      rcases hm with ⟨_, h, rfl⟩ | h
      ·exact lo7 _ hb (by omega)
      ·cases h
     obtain ⟨A8, G8, hx8, hacc8, hpm, z8, o8⟩ := hacc7.sorted rfl twoSource hXS (p := A3.size) (by omega) g7 rfl (by omega) (by simp) (by omega) (by omega) (wo_sorted ha1) (fun y hy => (wo_mem.1 hy).2)
     obtain rfl : G8 = [] := List.perm_nil.1 hpm
     refine ⟨_, A8, .ext hx8, ?_⟩
     have g8 := (o8 A3.size (by omega)).trans g7
     have r8 := (o8 (A.size + 1) (by omega)).trans r1
     simp (maxSteps := 2000000) (disch := first | omega | (simp only [AH.zN, AH.zP] <;> omega) | fail) only [amR Tryd.prog ro X, amS, seval, reduceCtorEq, ty3, ty4, ty9, ty50, ty51, ty53, ty129, g8, r8]
     obtain ⟨Fs, hsl, f1, f2, f3⟩ := hacc8.foot (by simp) .nil
     have hFs : ∀ b ∈ Fs, b = s'.b := fun b hb => by rcases f3 b hb with h | h; exact h.2; cases h
     have hXP := (ExtX.refl [A.size + 1] A8).put (b := A.size + 1) (by simp) (.cells [s'.v, t2.v] 2)
     have hG2 : ∀ b ∈ G2, K ≤ b ∧ b < A3.size ∧ A8.get b = A3.get b := fun b hb => by
      have h1 := w8 b hb
      have h2 := fr.hi b (by simp [hb])
      exact ⟨h1, h2, (o8 b (by omega)).trans (lo3 b h2 (by omega))⟩
     refine ⟨_, Fs ++ G2, by rw [putSrcR_0 k1 kk k4], ?_, ⟨List.nodup_append.2 ⟨f1, (List.nodup_append.1 fr.nodup).2.1, fun a ha b hb e => ?_⟩, fun b hb => ?_, fun b hb => ?_⟩, ⟨(by first | omega | (simp only [AH.zN, AH.zP] <;> omega)), fun b hb => ?_⟩⟩
     ·rw [putSrcR_0 k1 kk k4]
      refine rep_Space.2 ⟨s', t2, Fs, G2, rfl, rfl, hsl.extx hXP (fun b hb => by have := hFs b hb; simp; omega), ?_⟩
      exact (q2.frame (A' := A8) fun b hb => ⟨(hG2 b hb).2.2, by have := (hG2 b hb).2.1; omega⟩).extx hXP (fun b hb => by have := (hG2 b hb).1; simp; omega)
     ·have := hFs a ha; have := hG2 b hb; omega
     ·rcases List.mem_append.1 hb with hb | hb
      ·have := f2 b hb; omega
      ·have := hG2 b hb; omega
     ·simp only [AH.zP]
      rcases List.mem_append.1 hb with hb | hb
      ·have := hFs b hb; omega
      ·have := hG2 b hb; omega
     ·rw [AH.gPo (by omega), o8 b (by omega), lo3 b (by omega) (by omega), hE3.get b (by omega), hE1.get b (by first | omega | (simp only [AH.zN, AH.zP] <;> omega)), AH.gNo (by simp only [AH.zN]; omega), AH.gNo (by omega)]
  ·have kk : ¬ NameOk n ∨ 2000 < t.size := .inl k2
   simp (maxSteps := 2000000) (disch := first | omega | (simp only [AH.zN, AH.zP] <;> omega) | fail) only [amR Tryd.prog ro X, amS, seval, reduceCtorEq, ty3, ty4, ty9, ty50, ty51, ty53, ty129, hE1.get, k2]
   exact ⟨_, _, by rw [putSrcR_2 k1 kk], by rw [putSrcR_2 k1 kk]; exact Drop.zeroSp_rep _, Fresh.nil _ _, (by ((repeat' (first | exact Ext.refl _ | assumption | refine Ext.trans ?_ (Ext.new _ _) | refine Ext.put ?_ ?_ _ | refine Ext.trans ?_ (by assumption))) <;> (first | omega | (simp only [AH.zN, AH.zP] <;> omega))))⟩
 ·simp (maxSteps := 2000000) (disch := first | omega | (simp only [AH.zN, AH.zP] <;> omega) | fail) only [amR Tryd.prog ro X, amS, seval, reduceCtorEq, ty3, ty4, ty9, ty50, ty51, ty53, ty129, hE1.get, k1]
  exact ⟨_, _, by rw [putSrcR_1 k1], by rw [putSrcR_1 k1]; exact Drop.zeroSp_rep _, Fresh.nil _ _, (by ((repeat' (first | exact Ext.refl _ | assumption | refine Ext.trans ?_ (Ext.new _ _) | refine Ext.put ?_ ?_ _ | refine Ext.trans ?_ (by assumption))) <;> (first | omega | (simp only [AH.zN, AH.zP] <;> omega))))⟩
end Go.Proofs.YtjlbcofopapajaaDoor.Amu.PutSI
