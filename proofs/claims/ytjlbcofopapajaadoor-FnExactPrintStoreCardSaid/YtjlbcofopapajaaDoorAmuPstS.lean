import Derived.Test.YtjlbcofopapajaaDoorAmuTy
import Derived.Test.YtjlbcofopapajaaDoorAmRun
import Derived.Test.YtjlbcofopapajaaDoorAmBld
import Derived.Test.YtjlbcofopapajaaDoorAmuStore
import Derived.Test.YtjlbcofopapajaaDoorAmuForm
import Derived.Test.YtjlbcofopapajaaDoorAmuQuote
import Derived.Test.YtjlbcofopapajaaDoorAmuLine
import Derived.Test.YtjlbcofopapajaaDoorAmuHex
namespace Go.Proofs.YtjlbcofopapajaaDoor.Amu.PstS
open Go Go.AM Go.Proofs
set_option linter.all false
open Ty
variable {ro : Nat} {X : FuncId → List Value → AH → ARes → AH → Prop}
set_option maxRecDepth 10000
theorem rec_a (A : AH) (hro : ro ≤ A.size) (s1 s2 : Sl) (r : TRecord) (w : Int) (hw : w ≤ 8) (hR : RecOk r w) (G1 G2 : List Nat) (r1 : SlR A s1 r.1 G1) (r2 : SlR A s2 r.2.1 G2) :
 ACalls Tryd.prog ro X 126 [.agg #[s1.v, s2.v, .string r.2.2]] A (fun q A' => ∃ u F, q = .ret (Sl.v u) ∧ SlR A' u (recL r) F ∧ Ext A A') := by
 refine ACalls.enterQ (rs := [.tmp 2]) Tryd.func126 rfl (by kernel_rfl) rfl ?_
 have l1 := r1.len
 have l2 := r2.len
 have l3 := hR.1.2.1
 have l4 := hR.2.1
 have hrw : (r.2.2.size : Int) = w := hR.2.2.1
 have hrz := recH_size hw hR
 have hrz2 : ((⟨#[114, 101, 99, 111, 114, 100, 32]⟩ : ByteArray) ++ hexS r.2.2).size ≤ 23 := hrz
 have hxz := hexS_size r.2.2
 have hbig : ∀ k : Nat, k ≤ 100000 → k < BIG := fun k hk => by unfold BIG; omega
 simp (maxSteps := 2000000) (disch := first | omega | (simp only [AH.zN, AH.zP] <;> omega) | fail) only [amR Tryd.prog ro X, amS, seval, reduceCtorEq, ty3, ty4, ty9, ty27, ty29, ty33, ty39, ty41, ty69, ty97, ty116, ty118, ty120]
 refine (Hex.l7Hex_a _ (by first | omega | (simp only [AH.zN, AH.zP] <;> omega)) r.2.2 (by omega)).mono ?_
 rintro q B ⟨rfl, hEB⟩
 have zB := hEB.size
 simp only [AH.zN] at zB
 have gB : B.get A.size = .cells [s1.v, s2.v, .string r.2.2] 3 := (hEB.get A.size (by first | omega | (simp only [AH.zN, AH.zP] <;> omega))).trans (AH.gNs _ _)
 have hEA : Ext A B := (by ((repeat' (first | exact Ext.refl _ | assumption | refine Ext.trans ?_ (Ext.new _ _) | refine Ext.put ?_ ?_ _ | refine Ext.trans ?_ (by assumption))) <;> (first | omega | (simp only [AH.zN, AH.zP] <;> omega))))
 simp (maxSteps := 2000000) (disch := first | omega | (simp only [AH.zN, AH.zP] <;> omega) | fail) only [amR Tryd.prog ro X, amS, seval, reduceCtorEq, ty3, ty4, ty9, ty27, ty29, ty33, ty39, ty41, ty69, ty97, ty116, ty118, ty120]
 generalize hC : B.new _ = C
 have zC : C.size = B.size + 1 := by rw [← hC]; rfl
 have hEC : Ext B C := by rw [← hC]; exact Ext.new _ _
 have gC : C.get B.size = .cells [.string (recH r)] 1 := by rw [← hC]; exact AH.gNs _ _
 clear hC
 refine Wp.loopC (fun k e A' => e 1 = .pointer (some ⟨A.size, 0, none⟩) ∧ Ext B A' ∧
  ∃ i : Nat, i ≤ r.1.length ∧ k = r.1.length - i ∧ e 4 = .int .i64 i ∧ ∃ u, e 3 = Sl.v u ∧ AM.Acc B.size A' u ([recH r] ++ (r.1.take i).map doS) []) (r.1.length - 0) ?_ ?_
 ·simp (maxSteps := 2000000) (disch := first | omega | (simp only [AH.zN, AH.zP] <;> omega) | fail) only [amV, amH, amQ, amL, amN Tryd.prog, amS, seval, reduceCtorEq, ty3, ty4, ty9, ty27, ty29, ty33, ty39, ty41, ty69, ty97, ty116, ty118, ty120]
  exact ⟨hEC, 0, by omega, rfl, rfl, _, rfl, .own (cs := [.string (recH r)]) (Nat.le_refl _) (by omega) (by simp) rfl (.inr ⟨rfl, hbig _ (by simp)⟩) gC (Reps.one ⟨rfl, rfl, hbig _ (by omega)⟩)⟩
 ·rintro k e A' ⟨e1, hE, i, hi, rfl, e4, u, e3, hacc⟩
  have zE := hE.size
  have gA := (hE.get A.size (by omega)).trans gB
  simp (maxSteps := 2000000) (disch := first | omega | (simp only [AH.zN, AH.zP] <;> omega) | fail) only [amR Tryd.prog ro X, amS, seval, reduceCtorEq, ty3, ty4, ty9, ty27, ty29, ty33, ty39, ty41, ty69, ty97, ty116, ty118, ty120, e1, e4, gA, l1]
  refine CondB.split (fun h => ?_) (fun h => ?_)
  ·have hil : i < r.1.length := by simp at h; omega
   obtain ⟨n1, b1, i1, c1, q1⟩ := (r1.ext (hEA.trans hE)).ins hil
   obtain ⟨v1, v2, v3, v4, v5⟩ := insB3 (hR.1.2.2 _ (List.getElem_mem hil))
   have hds := doS_size v3 v5
   have hls := lineS_size r.1[i] v3 v5
   have hds2 : ((⟨#[100, 111, 32]⟩ : ByteArray) ++ lineS r.1[i]).size ≤ 6012 := hds
   simp (maxSteps := 2000000) (disch := first | omega | (simp only [AH.zN, AH.zP] <;> omega) | fail) only [amR Tryd.prog ro X, amS, seval, reduceCtorEq, ty3, ty4, ty9, ty27, ty29, ty33, ty39, ty41, ty69, ty97, ty116, ty118, ty120, e1, e3, e4, gA, n1, c1]
   refine (Line.l2Line_a A' (by omega) r.1[i] v1 v2 v3 v4 v5).mono ?_
   rintro q D ⟨rfl, hED⟩
   have zD := hED.size
   obtain ⟨u', H', hap, hs', hg, hz5, _⟩ := (hacc.ext hED).lit (P := Tryd.prog) (ro := ro) (t := 33) (n := 1) (vs := [.string (doS r.1[i])]) (xs := [doS r.1[i]]) (by omega) (by simp only [ty33]; rfl) rfl (Reps.one ⟨rfl, rfl, hbig _ (by omega)⟩) (.inr (by simp)) (by simp; omega) (by omega)
   rw [show Dat.w ByteArray = 1 from rfl] at hap
   unfold doS at hap
   simp (maxSteps := 2000000) (disch := first | omega | (simp only [AH.zN, AH.zP] <;> omega) | fail) only [amR Tryd.prog ro X, amS, seval, reduceCtorEq, ty3, ty4, ty9, ty27, ty29, ty33, ty39, ty41, ty69, ty97, ty116, ty118, ty120, e1, e3, e4, hap]
   refine ⟨r.1.length - (i + 1), by omega, hg.ext (hE.trans hED) (Nat.le_refl _), i + 1, by omega, rfl, by simp, u', rfl, ?_⟩
   rw [List.take_succ_eq_append_getElem hil, List.map_append]
   simpa using hs'
  ·have hil : i = r.1.length := by simp at h; omega
   subst hil
   rw [List.take_length] at hacc
   simp (maxSteps := 2000000) (disch := first | omega | (simp only [AH.zN, AH.zP] <;> omega) | fail) only [amR Tryd.prog ro X, amS, seval, reduceCtorEq, ty3, ty4, ty9, ty27, ty29, ty33, ty39, ty41, ty69, ty97, ty116, ty118, ty120, e1, e3, gA]
   refine Wp.loopC (fun k e A' => e 1 = .pointer (some ⟨A.size, 0, none⟩) ∧ Ext B A' ∧
    ∃ i : Nat, i ≤ r.2.1.length ∧ k = r.2.1.length - i ∧ e 5 = .int .i64 i ∧ ∃ u, e 3 = Sl.v u ∧ AM.Acc B.size A' u ([recH r] ++ r.1.map doS ++ (r.2.1.take i).map glS) []) (r.2.1.length - 0) ?_ ?_
   ·simp (maxSteps := 2000000) (disch := first | omega | (simp only [AH.zN, AH.zP] <;> omega) | fail) only [amV, amH, amQ, amL, amN Tryd.prog, amS, seval, reduceCtorEq, ty3, ty4, ty9, ty27, ty29, ty33, ty39, ty41, ty69, ty97, ty116, ty118, ty120, e1, e3]
    exact ⟨hE, 0, by omega, rfl, rfl, _, rfl, by simpa using hacc⟩
   ·clear e1 e3 e4 hacc hE zE gA
    rintro k e A' ⟨e1, hE, i, hi, rfl, e5, u, e3, hacc⟩
    have zE := hE.size
    have gA := (hE.get A.size (by omega)).trans gB
    simp (maxSteps := 2000000) (disch := first | omega | (simp only [AH.zN, AH.zP] <;> omega) | fail) only [amR Tryd.prog ro X, amS, seval, reduceCtorEq, ty3, ty4, ty9, ty27, ty29, ty33, ty39, ty41, ty69, ty97, ty116, ty118, ty120, e1, e5, gA, l2]
    refine CondB.split (fun h => ?_) (fun h => ?_)
    ·have hil : i < r.2.1.length := by simp at h; omega
     obtain ⟨n2, b2, i2, c2, q2, q3⟩ := (r2.ext (hEA.trans hE)).glance hil
     have hgo := hR.2.2.2 _ (List.getElem_mem hil)
     have hgz := glS_size hw hgo
     have hn60 := hgo.1.2.1
     have hw8 := hgo.2
     have hxz2 := hexS_size r.2.1[i].2.2
     generalize hg0 : r.2.1[i] = g at hgo hgz hn60 hw8 hxz2 c2 q2 q3
     have e32 : (⟨#[32]⟩ : ByteArray).size = 1 := rfl
     have hz4 : (⟨#[97, 115, 107, 32]⟩ : ByteArray).size = 4 := rfl
     have hz5 : (⟨#[104, 97, 115, 32]⟩ : ByteArray).size = 4 := rfl
     obtain ⟨k1, k2, k3⟩ := row3 c2
     by_cases ha : g.2.1 = true
     ·have f0 : ((⟨#[97, 115, 107, 32]⟩ : ByteArray) ++ g.1).size ≤ 64 := by rw [ByteArray.size_append]; omega
      have f1 : ((⟨#[97, 115, 107, 32]⟩ : ByteArray) ++ g.1 ++ ⟨#[32]⟩).size ≤ 65 := by rw [ByteArray.size_append]; omega
      have f3 : (⟨#[97, 115, 107, 32]⟩ : ByteArray) ++ g.1 ++ ⟨#[32]⟩ ++ hexS g.2.2 = glS g := by unfold glS; rw [if_pos ha]
      simp (maxSteps := 2000000) (disch := first | omega | (simp only [AH.zN, AH.zP] <;> omega) | fail) only [amR Tryd.prog ro X, amS, seval, reduceCtorEq, ty3, ty4, ty9, ty27, ty29, ty33, ty39, ty41, ty69, ty97, ty116, ty118, ty120, e1, e3, e5, gA, n2, k1, k2, k3, ha]
      refine Wp.runG [16] (by kernel_rfl) (.inr (by intro v e A h; simp only [amK, amQ, thenQ, blockQ, endQ, reduceCtorEq, false_and, exists_false] at h)) ?_
      simp (maxSteps := 2000000) (disch := first | omega | (simp only [AH.zN, AH.zP] <;> omega) | fail) only [amR Tryd.prog ro X, amS, seval, reduceCtorEq, ty3, ty4, ty9, ty27, ty29, ty33, ty39, ty41, ty69, ty97, ty116, ty118, ty120, e1, e3, e5, gA, n2, k1, k2, k3, ha]
      refine (Hex.l7Hex_a A' (by omega) g.2.2 (by omega)).mono ?_
      rintro q D ⟨rfl, hED⟩
      have zD := hED.size
      obtain ⟨u', H', hap, hs', hg, hz5, _⟩ := (hacc.ext hED).lit (P := Tryd.prog) (ro := ro) (t := 33) (n := 1) (vs := [.string (glS g)]) (xs := [glS g]) (by omega) (by simp only [ty33]; rfl) rfl (Reps.one ⟨rfl, rfl, hbig _ (by omega)⟩) (.inr (by simp)) (by simp; omega) (by omega)
      rw [show Dat.w ByteArray = 1 from rfl] at hap
      simp (maxSteps := 2000000) (disch := first | omega | (simp only [AH.zN, AH.zP] <;> omega) | fail) only [amR Tryd.prog ro X, amS, seval, reduceCtorEq, ty3, ty4, ty9, ty27, ty29, ty33, ty39, ty41, ty69, ty97, ty116, ty118, ty120, e1, e3, e5, f3, hap]
      refine ⟨fun b hb => hED.get b hb, r.2.1.length - (i + 1), by omega, hg.ext (hE.trans hED) (Nat.le_refl _), i + 1, by omega, rfl, by simp, u', rfl, ?_⟩
      rw [List.take_succ_eq_append_getElem hil, List.map_append, hg0]
      simpa using hs'
     ·have f0 : ((⟨#[104, 97, 115, 32]⟩ : ByteArray) ++ g.1).size ≤ 64 := by rw [ByteArray.size_append]; omega
      have f1 : ((⟨#[104, 97, 115, 32]⟩ : ByteArray) ++ g.1 ++ ⟨#[32]⟩).size ≤ 65 := by rw [ByteArray.size_append]; omega
      have f3 : (⟨#[104, 97, 115, 32]⟩ : ByteArray) ++ g.1 ++ ⟨#[32]⟩ ++ hexS g.2.2 = glS g := by unfold glS; rw [if_neg ha]
      simp (maxSteps := 2000000) (disch := first | omega | (simp only [AH.zN, AH.zP] <;> omega) | fail) only [amR Tryd.prog ro X, amS, seval, reduceCtorEq, ty3, ty4, ty9, ty27, ty29, ty33, ty39, ty41, ty69, ty97, ty116, ty118, ty120, e1, e3, e5, gA, n2, k1, k2, k3, ha]
      refine Wp.runG [16] (by kernel_rfl) (.inr (by intro v e A h; simp only [amK, amQ, thenQ, blockQ, endQ, reduceCtorEq, false_and, exists_false] at h)) ?_
      simp (maxSteps := 2000000) (disch := first | omega | (simp only [AH.zN, AH.zP] <;> omega) | fail) only [amR Tryd.prog ro X, amS, seval, reduceCtorEq, ty3, ty4, ty9, ty27, ty29, ty33, ty39, ty41, ty69, ty97, ty116, ty118, ty120, e1, e3, e5, gA, n2, k1, k2, k3, ha]
      refine (Hex.l7Hex_a A' (by omega) g.2.2 (by omega)).mono ?_
      rintro q D ⟨rfl, hED⟩
      have zD := hED.size
      obtain ⟨u', H', hap, hs', hg, hz5, _⟩ := (hacc.ext hED).lit (P := Tryd.prog) (ro := ro) (t := 33) (n := 1) (vs := [.string (glS g)]) (xs := [glS g]) (by omega) (by simp only [ty33]; rfl) rfl (Reps.one ⟨rfl, rfl, hbig _ (by omega)⟩) (.inr (by simp)) (by simp; omega) (by omega)
      rw [show Dat.w ByteArray = 1 from rfl] at hap
      simp (maxSteps := 2000000) (disch := first | omega | (simp only [AH.zN, AH.zP] <;> omega) | fail) only [amR Tryd.prog ro X, amS, seval, reduceCtorEq, ty3, ty4, ty9, ty27, ty29, ty33, ty39, ty41, ty69, ty97, ty116, ty118, ty120, e1, e3, e5, f3, hap]
      refine ⟨fun b hb => hED.get b hb, r.2.1.length - (i + 1), by omega, hg.ext (hE.trans hED) (Nat.le_refl _), i + 1, by omega, rfl, by simp, u', rfl, ?_⟩
      rw [List.take_succ_eq_append_getElem hil, List.map_append, hg0]
      simpa using hs'
    ·have hil : i = r.2.1.length := by simp at h; omega
     subst hil
     rw [List.take_length] at hacc
     obtain ⟨u', H', hap, hs', hg, hz5, _⟩ := hacc.lit (P := Tryd.prog) (ro := ro) (t := 33) (n := 1) (vs := [.string endS]) (xs := [endS]) (by omega) (by simp only [ty33]; rfl) rfl (Reps.one ⟨rfl, rfl, by decide⟩) (.inr (by simp)) (by simp; omega) (by omega)
     rw [show Dat.w ByteArray = 1 from rfl] at hap
     unfold endS at hap
     simp (maxSteps := 2000000) (disch := first | omega | (simp only [AH.zN, AH.zP] <;> omega) | fail) only [amR Tryd.prog ro X, amS, seval, reduceCtorEq, ty3, ty4, ty9, ty27, ty29, ty33, ty39, ty41, ty69, ty97, ty116, ty118, ty120, e3, hap]
     obtain ⟨F, hF, _⟩ := hs'.slr
     exact ⟨u', F, rfl, by unfold recL; simpa using hF, hEA.trans (hg.ext hE (Nat.le_refl _))⟩
theorem lines_a (A : AH) (hro : ro ≤ A.size) (s1 s2 : Sl) (x : TStore) (hk : StoreOk x) (F1 F2 : List Nat) (h1 : SlR A s1 x.2.1 F1) (h2 : SlR A s2 x.2.2 F2) :
 ACalls Tryd.prog ro X 59 [.agg #[.int .i64 x.1, s1.v, s2.v]] A (fun q A' => ∃ u F, q = .ret (Sl.v u) ∧ SlR A' u (stoL x) F ∧ Ext A A') := by
 refine ACalls.enterQ (rs := [.tmp 2]) Tryd.func59 rfl (by kernel_rfl) rfl ?_
 have l1 := h1.len
 have l2 := h2.len
 obtain ⟨w1, w2, w3, w4, w5, w6⟩ := id hk
 have w18 := w1.2
 have w10 := w1.1
 have hw : (x.1 : Int) = ((x.1.toNat : Nat) : Int) := by omega
 have hst := stH_size w18
 have hst2 : ((⟨#[115, 116, 111, 114, 101, 32]⟩ : ByteArray) ++ decS x.1.toNat).size ≤ 15 := hst
 have hdz := decS_size x.1.toNat
 have hbig : ∀ k : Nat, k ≤ 100000 → k < BIG := fun k hk => by unfold BIG; omega
 simp (maxSteps := 2000000) (disch := first | omega | (simp only [AH.zN, AH.zP] <;> omega) | fail) only [amR Tryd.prog ro X, amS, seval, reduceCtorEq, ty3, ty9, ty27, ty29, ty33, ty39, ty41, ty69, ty97, ty116, ty118, ty120]
 have hI := Form.l2Dec_a (ro := ro) (X := X) x.1.toNat (A.new (.cells [.int .i64 x.1, s1.v, s2.v] 3)) (by first | omega | (simp only [AH.zN, AH.zP] <;> omega)) (by omega)
 rw [← hw] at hI
 refine hI.mono ?_
 rintro q B ⟨rfl, hEB⟩
 have zB := hEB.size
 simp only [AH.zN] at zB
 have gB : B.get A.size = .cells [.int .i64 x.1, s1.v, s2.v] 3 := (hEB.get A.size (by first | omega | (simp only [AH.zN, AH.zP] <;> omega))).trans (AH.gNs _ _)
 have hEA : Ext A B := (by ((repeat' (first | exact Ext.refl _ | assumption | refine Ext.trans ?_ (Ext.new _ _) | refine Ext.put ?_ ?_ _ | refine Ext.trans ?_ (by assumption))) <;> (first | omega | (simp only [AH.zN, AH.zP] <;> omega))))
 simp (maxSteps := 2000000) (disch := first | omega | (simp only [AH.zN, AH.zP] <;> omega) | fail) only [amR Tryd.prog ro X, amS, seval, reduceCtorEq, ty3, ty9, ty27, ty29, ty33, ty39, ty41, ty69, ty97, ty116, ty118, ty120]
 generalize hC : B.new _ = C
 have zC : C.size = B.size + 1 := by rw [← hC]; rfl
 have hEC : Ext B C := by rw [← hC]; exact Ext.new _ _
 have gC : C.get B.size = .cells [.string (stH x.1)] 1 := by rw [← hC]; exact AH.gNs _ _
 clear hC
 refine Wp.loopC (fun k e A' => e 1 = .pointer (some ⟨A.size, 0, none⟩) ∧ Ext B A' ∧
  ∃ i : Nat, i ≤ x.2.1.length ∧ k = x.2.1.length - i ∧ e 4 = .int .i64 i ∧ ∃ u, e 3 = Sl.v u ∧ AM.Acc B.size A' u ([stH x.1] ++ (x.2.1.take i).map txS) []) (x.2.1.length - 0) ?_ ?_
 ·simp (maxSteps := 2000000) (disch := first | omega | (simp only [AH.zN, AH.zP] <;> omega) | fail) only [amV, amH, amQ, amL, amN Tryd.prog, amS, seval, reduceCtorEq, ty3, ty9, ty27, ty29, ty33, ty39, ty41, ty69, ty97, ty116, ty118, ty120]
  exact ⟨hEC, 0, by omega, rfl, rfl, _, rfl, .own (cs := [.string (stH x.1)]) (Nat.le_refl _) (by omega) (by simp) rfl (.inr ⟨rfl, hbig _ (by simp)⟩) gC (Reps.one ⟨rfl, rfl, hbig _ (by omega)⟩)⟩
 ·rintro k e A' ⟨e1, hE, i, hi, rfl, e4, u, e3, hacc⟩
  have zE := hE.size
  have gA := (hE.get A.size (by omega)).trans gB
  simp (maxSteps := 2000000) (disch := first | omega | (simp only [AH.zN, AH.zP] <;> omega) | fail) only [amR Tryd.prog ro X, amS, seval, reduceCtorEq, ty3, ty9, ty27, ty29, ty33, ty39, ty41, ty69, ty97, ty116, ty118, ty120, e1, e4, gA, l1]
  refine CondB.split (fun h => ?_) (fun h => ?_)
  ·have hil : i < x.2.1.length := by simp at h; omega
   obtain ⟨n1, b1, m1, i1, c1, q1⟩ := (h1.ext (hEA.trans hE)).str hil
   rw [aCell_eq] at c1
   have htz := w5 _ (List.getElem_mem hil)
   have hts := txS_size htz
   have hqz := quoteS_size x.2.1[i]
   have hts2 : ((⟨#[116, 101, 120, 116, 32]⟩ : ByteArray) ++ quoteS x.2.1[i]).size ≤ 6013 := hts
   simp (maxSteps := 2000000) (disch := first | omega | (simp only [AH.zN, AH.zP] <;> omega) | fail) only [amR Tryd.prog ro X, amS, seval, reduceCtorEq, ty3, ty9, ty27, ty29, ty33, ty39, ty41, ty69, ty97, ty116, ty118, ty120, e1, e3, e4, gA, n1, c1]
   refine (Quote.l2Quote_a A' (by omega) x.2.1[i] (by omega)).mono ?_
   rintro q D ⟨rfl, hED⟩
   have zD := hED.size
   obtain ⟨u', H', hap, hs', hg, hz5, _⟩ := (hacc.ext hED).lit (P := Tryd.prog) (ro := ro) (t := 33) (n := 1) (vs := [.string (txS x.2.1[i])]) (xs := [txS x.2.1[i]]) (by omega) (by simp only [ty33]; rfl) rfl (Reps.one ⟨rfl, rfl, hbig _ (by omega)⟩) (.inr (by simp)) (by simp; omega) (by omega)
   rw [show Dat.w ByteArray = 1 from rfl] at hap
   unfold txS at hap
   simp (maxSteps := 2000000) (disch := first | omega | (simp only [AH.zN, AH.zP] <;> omega) | fail) only [amR Tryd.prog ro X, amS, seval, reduceCtorEq, ty3, ty9, ty27, ty29, ty33, ty39, ty41, ty69, ty97, ty116, ty118, ty120, e1, e3, e4, hap]
   refine ⟨x.2.1.length - (i + 1), by omega, hg.ext (hE.trans hED) (Nat.le_refl _), i + 1, by omega, rfl, by simp, u', rfl, ?_⟩
   rw [List.take_succ_eq_append_getElem hil, List.map_append]
   simpa using hs'
  ·have hil : i = x.2.1.length := by simp at h; omega
   subst hil
   rw [List.take_length] at hacc
   simp (maxSteps := 2000000) (disch := first | omega | (simp only [AH.zN, AH.zP] <;> omega) | fail) only [amR Tryd.prog ro X, amS, seval, reduceCtorEq, ty3, ty9, ty27, ty29, ty33, ty39, ty41, ty69, ty97, ty116, ty118, ty120, e1, e3, gA]
   refine Wp.loopC (fun k e A' => e 1 = .pointer (some ⟨A.size, 0, none⟩) ∧ Ext B A' ∧
    ∃ i : Nat, i ≤ x.2.2.length ∧ k = x.2.2.length - i ∧ e 5 = .int .i64 i ∧ ∃ u, e 3 = Sl.v u ∧ AM.Acc B.size A' u ([stH x.1] ++ x.2.1.map txS ++ recsL (x.2.2.take i)) []) (x.2.2.length - 0) ?_ ?_
   ·simp (maxSteps := 2000000) (disch := first | omega | (simp only [AH.zN, AH.zP] <;> omega) | fail) only [amV, amH, amQ, amL, amN Tryd.prog, amS, seval, reduceCtorEq, ty3, ty9, ty27, ty29, ty33, ty39, ty41, ty69, ty97, ty116, ty118, ty120, e1, e3]
    exact ⟨hE, 0, by omega, rfl, rfl, _, rfl, by simpa [recsL] using hacc⟩
   ·clear e1 e3 e4 hacc hE zE gA
    rintro k e A' ⟨e1, hE, i, hi, rfl, e5, u, e3, hacc⟩
    have zE := hE.size
    have gA := (hE.get A.size (by omega)).trans gB
    simp (maxSteps := 2000000) (disch := first | omega | (simp only [AH.zN, AH.zP] <;> omega) | fail) only [amR Tryd.prog ro X, amS, seval, reduceCtorEq, ty3, ty9, ty27, ty29, ty33, ty39, ty41, ty69, ty97, ty116, ty118, ty120, e1, e5, gA, l2]
    refine CondB.split (fun h => ?_) (fun h => ?_)
    ·have hil : i < x.2.2.length := by simp at h; omega
     have hR := w6 _ (List.getElem_mem hil)
     obtain ⟨n1, b1, i1, t1, t2, G1, G2, c1, r1, r2, rz, _, _⟩ := (h2.ext (hEA.trans hE)).record hil
     simp (maxSteps := 2000000) (disch := first | omega | (simp only [AH.zN, AH.zP] <;> omega) | fail) only [amR Tryd.prog ro X, amS, seval, reduceCtorEq, ty3, ty9, ty27, ty29, ty33, ty39, ty41, ty69, ty97, ty116, ty118, ty120, e1, e3, e5, gA, n1, c1]
     refine (rec_a A' (by omega) t1 t2 x.2.2[i] x.1 w18 hR G1 G2 r1 r2).mono ?_
     rintro q D ⟨u1, F1, rfl, hu1, hED⟩
     have zD := hED.size
     obtain ⟨vs, hsrc, hvs⟩ := hu1.srcS
     have hrl := (recL_size w18 hR).2
     have hsl := (recsL_size w18 (x.2.2.take i) fun y hy => w6 y (List.mem_of_mem_take hy)).2.1
     rw [List.length_take] at hsl
     obtain ⟨u', H', hap, hs', hg, hor⟩ := (hacc.ext hED).app (P := Tryd.prog) (ro := ro) (t := 33) (by omega) (by simp only [ty33]; rfl) hsrc rfl (hvs _) (.inr (by simp)) (by simp only [List.length_append, List.length_map, List.length_singleton]; omega) (by omega)
     simp (maxSteps := 2000000) (disch := first | omega | (simp only [AH.zN, AH.zP] <;> omega) | fail) only [amR Tryd.prog ro X, amS, seval, reduceCtorEq, ty3, ty9, ty27, ty29, ty33, ty39, ty41, ty69, ty97, ty116, ty118, ty120, e1, e3, e5, hap]
     refine ⟨x.2.2.length - (i + 1), by omega, hg.ext (hE.trans hED) (Nat.le_refl _), i + 1, by omega, rfl, by simp, u', rfl, ?_⟩
     rw [recsL_take_succ hil]
     simpa using hs'
    ·have hil : i = x.2.2.length := by simp at h; omega
     subst hil
     rw [List.take_length] at hacc
     simp (maxSteps := 2000000) (disch := first | omega | (simp only [AH.zN, AH.zP] <;> omega) | fail) only [amR Tryd.prog ro X, amS, seval, reduceCtorEq, ty3, ty9, ty27, ty29, ty33, ty39, ty41, ty69, ty97, ty116, ty118, ty120, e3]
     obtain ⟨F, hF, _⟩ := hacc.slr
     exact ⟨u, F, rfl, hF, hEA.trans hE⟩
theorem spec_a (A : AH) (hro : ro ≤ A.size) (s1 s2 : Sl) (x : TStore) (F1 F2 : List Nat) (h1 : SlR A s1 x.2.1 F1) (h2 : SlR A s2 x.2.2 F2) (hb : ∀ r ∈ x.2.2, r.1.length < 281474976710656) :
 ACalls Tryd.prog ro X 17 [.agg #[.int .i64 x.1, s1.v, s2.v]] A (fun r A' => r = .ret (.string (storeS x)) ∧ Ext A A') := by
 refine ACalls.enterQ (rs := [.tmp 2]) Tryd.func17 rfl (by kernel_rfl) rfl ?_
 have l1 := h1.len
 have l2 := h2.len
 simp (maxSteps := 2000000) (disch := first | omega | (simp only [AH.zN, AH.zP] <;> omega) | fail) only [amR Tryd.prog ro X, amS, seval, reduceCtorEq, ty3, ty4, ty5, ty9, ty27, ty29, ty33, ty39, ty41, ty69, ty97, ty116, ty118, ty120]
 refine (Store.specStore_a _ (by first | omega | (simp only [AH.zN, AH.zP] <;> omega)) s1 s2 x F1 F2 (h1.ext (by ((repeat' (first | exact Ext.refl _ | assumption | refine Ext.trans ?_ (Ext.new _ _) | refine Ext.put ?_ ?_ _ | refine Ext.trans ?_ (by assumption))) <;> (first | omega | (simp only [AH.zN, AH.zP] <;> omega))))) (h2.ext (by ((repeat' (first | exact Ext.refl _ | assumption | refine Ext.trans ?_ (Ext.new _ _) | refine Ext.put ?_ ?_ _ | refine Ext.trans ?_ (by assumption))) <;> (first | omega | (simp only [AH.zN, AH.zP] <;> omega))))) hb).mono ?_
 rintro r A1 ⟨rfl, hE1⟩
 have z1 := hE1.size
 simp only [AH.zN] at z1
 have b1 : A1.get A.size = .cells [.int .i64 x.1, s1.v, s2.v] 3 := (hE1.get A.size (by first | omega | (simp only [AH.zN, AH.zP] <;> omega))).trans (AH.gNs _ _)
 by_cases hk : StoreOk x
 ·obtain ⟨hsz, hll, hls⟩ := stoL_size hk
  simp (maxSteps := 2000000) (disch := first | omega | (simp only [AH.zN, AH.zP] <;> omega) | fail) only [amR Tryd.prog ro X, amS, seval, reduceCtorEq, ty3, ty4, ty5, ty9, ty27, ty29, ty33, ty39, ty41, ty69, ty97, ty116, ty118, ty120, hk, b1]
  generalize hB0 : A1.new _ = B0
  have zB0 : B0.size = A1.size + 1 := by rw [← hB0]; rfl
  have hEB0 : Ext A1 B0 := by rw [← hB0]; exact Ext.new _ _
  have hEA0 : Ext A B0 := (by ((repeat' (first | exact Ext.refl _ | assumption | refine Ext.trans ?_ (Ext.new _ _) | refine Ext.put ?_ ?_ _ | refine Ext.trans ?_ (by assumption))) <;> (first | omega | (simp only [AH.zN, AH.zP] <;> omega))))
  clear hB0
  refine (lines_a B0 (by omega) s1 s2 x hk F1 F2 (h1.ext hEA0) (h2.ext hEA0)).mono ?_
  rintro r B ⟨sl, FL, rfl, hL, hEB⟩
  have zB := hEB.size
  have hEA : Ext A B := hEA0.trans hEB
  have l3 := hL.len
  simp (maxSteps := 2000000) (disch := first | omega | (simp only [AH.zN, AH.zP] <;> omega) | fail) only [amR Tryd.prog ro X, amS, seval, reduceCtorEq, ty3, ty4, ty5, ty9, ty27, ty29, ty33, ty39, ty41, ty69, ty97, ty116, ty118, ty120]
  refine Wp.loopC (fun k e A' => e 4 = sl.v ∧ Ext B A' ∧
   ∃ i : Nat, i ≤ (stoL x).length ∧ k = (stoL x).length - i ∧ e 5 = .int .i64 i ∧ ∃ u, e 3 = Sl.v u ∧ AM.Acc B.size A' u (ls (joinS ((stoL x).take i))) [] ∧ u.nl = false) ((stoL x).length - 0) ?_ ?_
  ·simp (maxSteps := 2000000) (disch := first | omega | (simp only [AH.zN, AH.zP] <;> omega) | fail) only [amV, amH, amQ, amL, amN Tryd.prog, amS, seval, reduceCtorEq, ty3, ty4, ty5, ty9, ty27, ty29, ty33, ty39, ty41, ty69, ty97, ty116, ty118, ty120]
   exact ⟨Ext.refl _, 0, by omega, rfl, rfl, _, rfl, .empty A1.size 0, rfl⟩
  ·rintro k e A' ⟨e4, hE, i, hi, rfl, e5, u, e3, hacc, hnl⟩
   have zE := hE.size
   have hcl := hacc.len
   rw [ls_length] at hcl
   have htk := joinS_take_le (stoL x) i
   simp (maxSteps := 2000000) (disch := first | omega | (simp only [AH.zN, AH.zP] <;> omega) | fail) only [amR Tryd.prog ro X, amS, seval, reduceCtorEq, ty3, ty4, ty5, ty9, ty27, ty29, ty33, ty39, ty41, ty69, ty97, ty116, ty118, ty120, e4, e5, l3]
   refine CondB.split (fun h => ?_) (fun h => ?_)
   ·have hil : i < (stoL x).length := by simp at h; omega
    obtain ⟨n1, b1, m1, i1, c1, q1⟩ := (hL.ext hE).str hil
    rw [aCell_eq] at c1
    have hlz := hls _ (List.getElem_mem hil)
    obtain ⟨u2, D2, hap, hs2, hg2, hor⟩ := hacc.app (P := Tryd.prog) (ro := ro) (t := 69) (x := .string (stoL x)[i]) (n := (stoL x)[i].size) (vs := bytesOf (stoL x)[i]) (xs := ls (stoL x)[i]) (Gx := []) (by omega) (by simp only [ty69]; rfl) rfl (ls_length _).symm (by rw [bytesOf_ls]; exact Reps.ofU8 _ _) (.inr (by simp)) (by rw [ls_length]; omega) (by omega) (fun h => by rw [hnl] at h; cases h)
    have hnl2 : u2.nl = false := by rcases hor with h | h; exact h.1.trans hnl; exact h.2
    have hE2 := hg2.ext hE (Nat.le_refl _)
    have zD2 := hg2.size
    obtain ⟨u3, D3, hap3, hs3, hg3, _, hor3⟩ := hs2.lit (P := Tryd.prog) (ro := ro) (t := 69) (n := 1) (vs := [.int .u8 10]) (xs := [10]) (by omega) (by simp only [ty69]; rfl) rfl (Reps.one ⟨rfl, rfl⟩) (.inr (by simp)) (by rw [List.length_append, ls_length, ls_length]; omega) (by omega)
    rw [show Dat.w UInt8 = 1 from rfl] at hap3
    have hnl3 : u3.nl = false := by rcases hor3 with h | h; exact h.1.trans hnl2; exact h.2
    have hfin : AM.Acc B.size D3 u3 (ls (joinS ((stoL x).take (i + 1)))) [] := by
     rw [joinS_take_succ hil]
     have : ls (joinS ((stoL x).take i) ++ ((stoL x)[i] ++ ⟨#[10]⟩)) = ls (joinS ((stoL x).take i)) ++ ls (stoL x)[i] ++ [10] := by unfold ls; simp
     rw [this]
     simpa using hs3
    simp (maxSteps := 2000000) (disch := first | omega | (simp only [AH.zN, AH.zP] <;> omega) | fail) only [amR Tryd.prog ro X, amS, seval, reduceCtorEq, ty3, ty4, ty5, ty9, ty27, ty29, ty33, ty39, ty41, ty69, ty97, ty116, ty118, ty120, e3, e4, e5, n1, c1, hap, hap3]
    exact ⟨(stoL x).length - (i + 1), by omega, hg3.ext hE2 (Nat.le_refl _), i + 1, by omega, rfl, by simp, u3, rfl, hfin, hnl3⟩
   ·have hil : i = (stoL x).length := by simp at h; omega
    subst hil
    rw [List.take_length] at hacc hcl
    obtain ⟨F', hF, _⟩ := hacc.slr
    have hF5 := hF.len
    rw [ls_length] at hF5
    by_cases hg : (200000 : Int) < (joinS (stoL x)).size
    ·simp (maxSteps := 2000000) (disch := first | omega | (simp only [AH.zN, AH.zP] <;> omega) | fail) only [amR Tryd.prog ro X, amS, seval, reduceCtorEq, ty3, ty4, ty5, ty9, ty27, ty29, ty33, ty39, ty41, ty69, ty97, ty116, ty118, ty120, e3, hF5, hg]
     exact ⟨by unfold storeS; rw [if_pos hk, if_pos (by omega)], hEA.trans hE⟩
    ·have hT := hF.toStr
     rw [hF5, bs_ls] at hT
     simp (maxSteps := 2000000) (disch := first | omega | (simp only [AH.zN, AH.zP] <;> omega) | fail) only [amR Tryd.prog ro X, amS, seval, reduceCtorEq, ty3, ty4, ty5, ty9, ty27, ty29, ty33, ty39, ty41, ty69, ty97, ty116, ty118, ty120, e3, hF5, hg, hT]
     exact ⟨by unfold storeS; rw [if_pos hk, if_neg (by omega)], hEA.trans hE⟩
 ·simp (maxSteps := 2000000) (disch := first | omega | (simp only [AH.zN, AH.zP] <;> omega) | fail) only [amR Tryd.prog ro X, amS, seval, reduceCtorEq, ty3, ty4, ty5, ty9, ty27, ty29, ty33, ty39, ty41, ty69, ty97, ty116, ty118, ty120, hk]
  exact ⟨by unfold storeS; rw [if_neg hk], (by ((repeat' (first | exact Ext.refl _ | assumption | refine Ext.trans ?_ (Ext.new _ _) | refine Ext.put ?_ ?_ _ | refine Ext.trans ?_ (by assumption))) <;> (first | omega | (simp only [AH.zN, AH.zP] <;> omega))))⟩
end Go.Proofs.YtjlbcofopapajaaDoor.Amu.PstS
