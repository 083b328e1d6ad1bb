import Derived.Test.YtjlbcofopapajaaDoorAmuTy
import Derived.Test.YtjlbcofopapajaaDoorAmuLawA
namespace Go.Proofs.YtjlbcofopapajaaDoor.Amu.Law
open Go Go.AM Go.Proofs
set_option linter.all false
open Ty
variable {ro : Nat} {X : FuncId → List Value → AH → ARes → AH → Prop}
set_option maxRecDepth 10000
theorem mkL_Ins (A : AH) (hro : ro ≤ A.size) (s : Sl) (l : List TIns) (F : List Nat) (hs : SlR A s l F) (hF : ∀ b, b ∈ F → ro ≤ b) (hN : F.Nodup) (k : Int) (hk : 0 ≤ k ∧ k + nmL l < 281474976710656) :
 ACalls Tryd.prog ro X 91 [s.v, .int .i64 k] A (fun r A' => r = .ret (.int .i64 (k + nmL l)) ∧ SlR A' s (mkL k l) F ∧ ExtX F A A') := by
 have hw : Dat.w TIns = 3 := rfl
 have hll : l.length ≤ nmL l := nmL_length l fun x => by show 1 ≤ 1 + (1 + (1)); omega
 refine ACalls.enterQ (rs := [.tmp 4]) Tryd.func91 rfl (by kernel_rfl) rfl ?_
 simp (maxSteps := 2000000) (disch := first | omega | (simp only [AH.zN, AH.zP] <;> omega) | fail) only [amR Tryd.prog ro X, amS, seval, reduceCtorEq, ty3, ty9, ty27, ty97]
 refine Wp.loopC (fun n e A' => ExtX F A A' ∧ e 0 = s.v ∧ ∃ i : Nat, i ≤ l.length ∧ n = l.length - i ∧ e 5 = .int .i64 i ∧ e 1 = .int .i64 (k + nmL (l.take i)) ∧ SlR A' s (mkL k (l.take i) ++ l.drop i) F) (l.length - 0) ?_ ?_
 ·simp (maxSteps := 2000000) (disch := first | omega | (simp only [AH.zN, AH.zP] <;> omega) | fail) only [amV, amH, amQ, amL, amN Tryd.prog, amS, seval, reduceCtorEq, ty3, ty9, ty27, ty97]
  exact ⟨ExtX.refl F A, 0, by omega, rfl, rfl, by simp [nmL], by simpa [mkL] using hs⟩
 ·rintro n e A' ⟨hE, h0, i, hi, rfl, h5, h1, hs'⟩
  have hlen : s.len = l.length := by rw [hs'.len, List.length_append, mkL_length, List.length_take, List.length_drop]; omega
  have hz := hE.size
  simp (maxSteps := 2000000) (disch := first | omega | (simp only [AH.zN, AH.zP] <;> omega) | fail) only [amR Tryd.prog ro X, amS, seval, reduceCtorEq, ty3, ty9, ty27, ty97, h0, h5, hlen]
  refine CondB.split (fun h => ?_) (fun h => ?_)
  ·have hil : i < l.length := by simp at h; omega
   have hnt := nmL_take_succ l i hil
   have hnl := nmL_take_le l (i + 1)
   have hnm : Mk.nm l[i] = 1 + (1 + (1)) := rfl
   have e0x : Mk.nm l[i].1 = 1 := rfl
   have e1x : Mk.nm l[i].2.1 = 1 := rfl
   have e2x : Mk.nm l[i].2.2 = 1 := rfl
   obtain ⟨c, Fi, ci, n1, b1, i1, hb, g1, hc, hrow, hr, hNi, q2, q3, hup⟩ := hs'.step hN (by rw [mkL_length, List.length_take, Nat.min_eq_left hi]) hil
   rw [hw] at g1 hc hrow hup
   have hrb := hF _ hb
   obtain ⟨hci, hFi, z1⟩ := rep_Ins.1 hr
   rw [hci] at hrow
   have r0 := row_get hrow 0 (by omega)
   have r1 := row_get hrow 1 (by omega)
   have r2 := row_get hrow 2 (by omega)
   simp only [List.getElem?_cons_zero, List.getElem?_cons_succ, Nat.add_zero] at r0 r1 r2
   simp (maxSteps := 2000000) (disch := first | omega | (simp only [AH.zN, AH.zP] <;> omega) | fail) only [amR Tryd.prog ro X, amS, seval, reduceCtorEq, ty3, ty9, ty27, ty97, h0, h5, h1, n1, g1, set_miss, r0, r1, r2]
   refine (Strs.markText_a _ (by first | omega | (simp only [AH.zN, AH.zP] <;> omega)) _ (by omega)).mono ?_
   rintro r B1 ⟨rfl, hE1⟩
   have v1 := hE1.size
   try simp only [AH.zN, AH.zP] at v1
   simp (maxSteps := 2000000) (disch := first | omega | (simp only [AH.zN, AH.zP] <;> omega) | fail) only [amR Tryd.prog ro X, amS, seval, reduceCtorEq, ty3, ty9, ty27, ty97, h0, h5, h1, n1, g1, set_miss, r0, r1, r2, hE1.get]
   refine ⟨l.length - (i + 1), by omega, by ((repeat' (first | assumption | exact ExtX.refl _ _ | refine ExtX.put ?_ ?_ _ | refine ExtX.new ?_ _ | refine ExtX.trans ?_ (Ext.x (by assumption) _) | refine ExtX.trans ?_ (ExtX.mono (by assumption) ?_))) <;> (first | omega | assumption | (intro b hb2; simp [hb2]; done) | (intro b hb2; exact q3 b (by simp [hb2])) | (simp; done))), i + 1, by omega, rfl, by congr 1 <;> omega, by rw [hnt, hnm]; congr 1; omega, ?_⟩
   rw [mkL_take_succ _ _ _ hil]
   refine hup _ _ _ (by ((repeat' (first | assumption | exact ExtX.refl _ _ | refine ExtX.put ?_ ?_ _ | refine ExtX.new ?_ _ | refine ExtX.trans ?_ (Ext.x (by assumption) _) | refine ExtX.trans ?_ (ExtX.mono (by assumption) ?_))) <;> (first | omega | assumption | (intro b hb2; simp [hb2]; done) | (intro b hb2; exact q3 b (by simp [hb2])) | (simp; done)))) (AH.gPs _ _ _) (by simp only [List.length_set]) (fun j hj => by simp (disch := omega) only [set_miss]) (rep_Ins.2 ⟨row_of rfl (by simp only [List.length_set]; omega) (fun j hj => by
    have hj2 : j = 0 ∨ j = 1 ∨ j = 2 := by omega
    rcases hj2 with rfl | rfl | rfl <;> (try simp (disch := first | omega | (simp only [List.length_set] <;> omega)) only [set_miss, set_hit, Nat.add_zero]) <;> (try simp only [r0, r1, r2]) <;> rfl), hFi, mkText_size _ (by have : ((1 : Nat) : Int) = 1 := rfl; omega)⟩)
  ·have hil : i = l.length := by simp at h; omega
   subst hil
   simp (maxSteps := 2000000) (disch := first | omega | (simp only [AH.zN, AH.zP] <;> omega) | fail) only [amR Tryd.prog ro X, amS, seval, reduceCtorEq, ty3, ty9, ty27, ty97, h1]
   rw [List.take_length] at h1
   rw [List.drop_length, List.append_nil, List.take_length] at hs'
   rw [List.take_length]
   exact ⟨rfl, hs', hE⟩
theorem hdL_Ins (A : AH) (hro : ro ≤ A.size) (s : Sl) (l : List TIns) (F : List Nat) (k : Int) (hs : SlR A s (mkL k l) F) (hk : 0 ≤ k ∧ k + nmL l < 281474976710656) :
 ACalls Tryd.prog ro X 96 [s.v, .int .i64 k] A (fun r A' => r = .ret (.int .i64 (k + nmL l)) ∧ Ext A A') := by
 have hw : Dat.w TIns = 3 := rfl
 have hlen : s.len = l.length := by rw [hs.len, mkL_length]
 have hll : l.length ≤ nmL l := nmL_length l fun x => by show 1 ≤ 1 + (1 + (1)); omega
 refine ACalls.enterQ (rs := [.tmp 4]) Tryd.func96 rfl (by kernel_rfl) rfl ?_
 simp (maxSteps := 2000000) (disch := first | omega | (simp only [AH.zN, AH.zP] <;> omega) | fail) only [amR Tryd.prog ro X, amS, seval, reduceCtorEq, ty3, ty9, ty27, ty97]
 refine Wp.loopC (fun n e A' => Ext A A' ∧ e 0 = s.v ∧ ∃ i : Nat, i ≤ l.length ∧ n = l.length - i ∧ e 5 = .int .i64 i ∧ e 1 = .int .i64 (k + nmL (l.take i))) (l.length - 0) ?_ ?_
 ·simp (maxSteps := 2000000) (disch := first | omega | (simp only [AH.zN, AH.zP] <;> omega) | fail) only [amV, amH, amQ, amL, amN Tryd.prog, amS, seval, reduceCtorEq, ty3, ty9, ty27, ty97]
  exact ⟨Ext.refl A, 0, by omega, rfl, rfl, by simp [nmL]⟩
 ·rintro n e A' ⟨hE, h0, i, hi, rfl, h5, h1⟩
  have hz := hE.size
  have hs' := hs.ext hE
  simp (maxSteps := 2000000) (disch := first | omega | (simp only [AH.zN, AH.zP] <;> omega) | fail) only [amR Tryd.prog ro X, amS, seval, reduceCtorEq, ty3, ty9, ty27, ty97, h0, h5, hlen]
  refine CondB.split (fun h => ?_) (fun h => ?_)
  ·have hil : i < l.length := by simp at h; omega
   have hnt := nmL_take_succ l i hil
   have hnl := nmL_take_le l (i + 1)
   have hnm : Mk.nm l[i] = 1 + (1 + (1)) := rfl
   obtain ⟨n1, b1, m1, i1, cs, Fi, c1, q1, _⟩ := hs'.row (i := i) (by rw [mkL_length]; exact hil)
   rw [aRow_eq, hw] at c1
   rw [mkL_get] at q1
   obtain ⟨c, e', g1, g2, g3⟩ := rowK_inv c1
   obtain ⟨hci, hFi, z1⟩ := rep_Ins.1 q1
   rw [hci] at g3
   have r0 := row_get g3 0 (by omega)
   have r1 := row_get g3 1 (by omega)
   have r2 := row_get g3 2 (by omega)
   simp only [List.getElem?_cons_zero, List.getElem?_cons_succ, Nat.add_zero] at r0 r1 r2
   have r0 : c[s.o + i * 3]? = some (.int .i64 (k + nmL (l.take i))) := r0
   have r1 : c[s.o + i * 3 + 1]? = some (.string (mkText (k + nmL (l.take i) + 1))) := r1
   have r2 : c[s.o + i * 3 + 2]? = some (.int .i64 (k + nmL (l.take i) + 1 + 1)) := r2
   simp (maxSteps := 2000000) (disch := first | omega | (simp only [AH.zN, AH.zP] <;> omega) | fail) only [amR Tryd.prog ro X, amS, seval, reduceCtorEq, ty3, ty9, ty27, ty97, h0, h5, h1, n1, g1, r0, r1, r2]
   refine Wp.runG [6] (by kernel_rfl) (.inl (by kernel_rfl)) ?_
   simp (maxSteps := 2000000) (disch := first | omega | (simp only [AH.zN, AH.zP] <;> omega) | fail) only [amR Tryd.prog ro X, amS, seval, reduceCtorEq, ty3, ty9, ty27, ty97, h0, h5, h1, n1, g1, r0, r1, r2]
   refine (Strs.markText_a _ (by first | omega | (simp only [AH.zN, AH.zP] <;> omega)) _ (by omega)).mono ?_
   rintro r B1 ⟨rfl, hE1⟩
   have v1 := hE1.size
   simp (maxSteps := 2000000) (disch := first | omega | (simp only [AH.zN, AH.zP] <;> omega) | fail) only [amR Tryd.prog ro X, amS, seval, reduceCtorEq, ty3, ty9, ty27, ty97, h0, h5, h1, n1, g1, r0, r1, r2]
   refine ⟨fun b hb => hE1.get b hb, ?_⟩
   try simp (maxSteps := 2000000) (disch := first | omega | (simp only [AH.zN, AH.zP] <;> omega) | fail) only [amR Tryd.prog ro X, amS, seval, reduceCtorEq, ty3, ty9, ty27, ty97, h0, h5, h1, n1, g1, r0, r1, r2, hE1.get]
   refine ⟨l.length - (i + 1), by omega, by ((repeat' (first | exact Ext.refl _ | assumption | refine Ext.trans ?_ (Ext.new _ _) | refine Ext.put ?_ ?_ _ | refine Ext.trans ?_ (by assumption))) <;> (first | omega | (simp only [AH.zN, AH.zP] <;> omega))), i + 1, by omega, rfl, by congr 1 <;> omega, by rw [hnt, hnm]; congr 1; omega⟩
  ·have hil : i = l.length := by simp at h; omega
   subst hil
   simp (maxSteps := 2000000) (disch := first | omega | (simp only [AH.zN, AH.zP] <;> omega) | fail) only [amR Tryd.prog ro X, amS, seval, reduceCtorEq, ty3, ty9, ty27, ty97, h1]
   rw [List.take_length]
   exact ⟨rfl, hE⟩
theorem mk_Program (A : AH) (hro : ro ≤ A.size) (s1 : Sl) (l1 : List TIns) (G1 : List Nat) (k : Int)
 (h1 : SlR A s1 l1 G1) (hF1 : ∀ b, b ∈ G1 → ro ≤ b) (hN : (G1).Nodup) (hk : 0 ≤ k ∧ k + (nmL l1 : Nat) < 281474976710656) :
 ACalls Tryd.prog ro X 30 [.agg #[s1.v], .int .i64 k] A (fun r A' => r = .ret (.int .i64 (k + (nmL l1 : Nat))) ∧ SlR A' s1 (mkL (k) l1) G1 ∧ ExtX (G1) A A') := by
 have hN1 := hN
 refine ACalls.enterQ (rs := [.tmp 4]) Tryd.func30 rfl (by kernel_rfl) rfl ?_
 simp (maxSteps := 2000000) (disch := first | omega | (simp only [AH.zN, AH.zP] <;> omega) | fail) only [amR Tryd.prog ro X, amS, seval, reduceCtorEq, ty27, ty29, ty97]
 refine (mkL_Ins _ (by first | omega | (simp only [AH.zN, AH.zP] <;> omega)) s1 _ G1 (h1.ext (by ((repeat' (first | exact Ext.refl _ | assumption | refine Ext.trans ?_ (Ext.new _ _) | refine Ext.put ?_ ?_ _ | refine Ext.trans ?_ (by assumption))) <;> (first | omega | (simp only [AH.zN, AH.zP] <;> omega))))) hF1 hN1 _ (by omega)).mono ?_
 rintro r B1 ⟨rfl, u1, hX1⟩
 have v1 := hX1.size
 try simp only [AH.zN, AH.zP] at v1
 have hG1 : B1.get A.size = _ := hX1.get A.size (by first | omega | (simp only [AH.zN, AH.zP] <;> omega)) (fun hm => by have hb := h1.bound _ hm; omega)
 simp (maxSteps := 2000000) (disch := first | omega | (simp only [AH.zN, AH.zP] <;> omega) | fail) only [amR Tryd.prog ro X, amS, seval, reduceCtorEq, ty27, ty29, ty97, hG1]
 exact ⟨u1, (by ((repeat' (first | exact ExtX.refl _ _ | refine ExtX.put ?_ ?_ _ | refine ExtX.new ?_ _ | refine ExtX.trans ?_ (ExtX.mono (by assumption) ?_))) <;> (intro b hb; first | exact hb | (simp at hb ⊢; first | (simp [hb]; done) | (rcases hb with hb | hb <;> simp [hb])))))⟩
theorem hd_Program (A : AH) (hro : ro ≤ A.size) (s1 : Sl) (l1 : List TIns) (G1 : List Nat) (k : Int)
 (h1 : SlR A s1 (mkL (k) l1) G1) (hk : 0 ≤ k ∧ k + (nmL l1 : Nat) < 281474976710656) :
 ACalls Tryd.prog ro X 34 [.agg #[s1.v], .int .i64 k] A (fun r A' => r = .ret (.int .i64 (k + (nmL l1 : Nat))) ∧ Ext A A') := by
 refine ACalls.enterQ (rs := [.tmp 4]) Tryd.func34 rfl (by kernel_rfl) rfl ?_
 simp (maxSteps := 2000000) (disch := first | omega | (simp only [AH.zN, AH.zP] <;> omega) | fail) only [amR Tryd.prog ro X, amS, seval, reduceCtorEq, ty3, ty27, ty29, ty97]
 refine (hdL_Ins _ (by first | omega | (simp only [AH.zN, AH.zP] <;> omega)) s1 _ _ _ (h1.ext (by ((repeat' (first | exact Ext.refl _ | assumption | refine Ext.trans ?_ (Ext.new _ _) | refine Ext.put ?_ ?_ _ | refine Ext.trans ?_ (by assumption))) <;> (first | omega | (simp only [AH.zN, AH.zP] <;> omega))))) (by omega)).mono ?_
 rintro r B1 ⟨rfl, hE1⟩
 have v1 := hE1.size
 try simp only [AH.zN, AH.zP] at v1
 have w1 : ¬ (k + (nmL l1 : Nat) < 0) := by omega
 simp (maxSteps := 2000000) (disch := first | omega | (simp only [AH.zN, AH.zP] <;> omega) | fail) only [amR Tryd.prog ro X, amS, seval, reduceCtorEq, ty3, ty27, ty29, ty97, hE1.get, w1]
 ((repeat' (first | exact Ext.refl _ | assumption | refine Ext.trans ?_ (Ext.new _ _) | refine Ext.put ?_ ?_ _ | refine Ext.trans ?_ (by assumption))) <;> (first | omega | (simp only [AH.zN, AH.zP] <;> omega)))
end Go.Proofs.YtjlbcofopapajaaDoor.Amu.Law
