import Derived.Test.YtjlbcofopapajaaDoorAmuTy
import Derived.Test.YtjlbcofopapajaaDoorAmRun
import Derived.Test.YtjlbcofopapajaaDoorAmBld
import Derived.Test.YtjlbcofopapajaaDoorAmuProg
import Derived.Test.YtjlbcofopapajaaDoorAmuLine
import Derived.Test.YtjlbcofopapajaaDoorAmuBld
namespace Go.Proofs.YtjlbcofopapajaaDoor.Amu.Print
open Go Go.AM Go.Proofs
set_option linter.all false
open Ty
variable {ro : Nat} {X : FuncId → List Value → AH → ARes → AH → Prop}
set_option maxRecDepth 10000
theorem mostN_le (op : Int) : mostN op ≤ 2000 := by unfold mostN; split; omega; split <;> omega
theorem insB {x : TIns} (h : InsOk x) : 1 ≤ x.1 ∧ x.1 ≤ 15 ∧ x.2.1.size ≤ 2000 ∧ 0 ≤ x.2.2 ∧ x.2.2 ≤ 2000 := ⟨h.1, h.2.1, h.2.2.1, h.2.2.2.1, Int.le_trans h.2.2.2.2.1 (mostN_le _)⟩
theorem linesB {p : List TIns} (h : ∀ x ∈ p, InsOk x) (hl : p.length ≤ 200) : (linesS p).size ≤ 1202000 := by
 have := linesS_size p fun x hx => ⟨(insB (h x hx)).2.2.1, (insB (h x hx)).2.2.2.2⟩
 omega
theorem linesS_pos {p : List TIns} (h : 1 ≤ p.length) : 1 ≤ (linesS p).size := by
 cases p with
 | nil => simp at h
 | cons x l =>
   have e1 : (⟨#[10]⟩ : ByteArray).size = 1 := rfl
   rw [linesS, ByteArray.size_append, ByteArray.size_append]
   omega
theorem impl_a (hXB : ∀ f args A r A', BldX 120 54 101 5 ro f args A r A' → X f args A r A') (A : AH) (hro : ro ≤ A.size) (hT : Tab 0 A) (hP : Pow 1 A) (s : Sl) (p : TProgram) (F : List Nat) (hs : SlR A s p F) :
 ACalls Tryd.prog ro X 14 [.agg #[s.v]] A (fun r A' => r = .ret (.string (progS p)) ∧ Ext A A') := by
 refine ACalls.enterQ (rs := [.tmp 2]) Tryd.func14 rfl (by kernel_rfl) rfl ?_
 have hlen := hs.len
 simp (maxSteps := 2000000) (disch := first | omega | (simp only [AH.zN, AH.zP] <;> omega) | fail) only [amR Tryd.prog ro X, amS, seval, reduceCtorEq, ty3, ty4, ty9, ty27, ty29, ty69, ty97, ty99, ty101]
 refine (Prog.implValid_a _ (by first | omega | (simp only [AH.zN, AH.zP] <;> omega)) (hT.ext (by ((repeat' (first | exact Ext.refl _ | assumption | refine Ext.trans ?_ (Ext.new _ _) | refine Ext.put ?_ ?_ _ | refine Ext.trans ?_ (by assumption))) <;> (first | omega | (simp only [AH.zN, AH.zP] <;> omega))))) s p F (hs.ext (by ((repeat' (first | exact Ext.refl _ | assumption | refine Ext.trans ?_ (Ext.new _ _) | refine Ext.put ?_ ?_ _ | refine Ext.trans ?_ (by assumption))) <;> (first | omega | (simp only [AH.zN, AH.zP] <;> omega)))))).mono ?_
 rintro r A1 ⟨rfl, hE1⟩
 have z1 := hE1.size
 simp only [AH.zN] at z1
 by_cases hp : ProgOk p
 ·obtain ⟨hp1, hp2, hp3⟩ := hp
  have hp : ProgOk p := ⟨hp1, hp2, hp3⟩
  simp (maxSteps := 2000000) (disch := first | omega | (simp only [AH.zN, AH.zP] <;> omega) | fail) only [amR Tryd.prog ro X, amS, seval, reduceCtorEq, ty3, ty4, ty9, ty27, ty29, ty69, ty97, ty99, ty101, hp, hE1.get, hlen]
  generalize hB : A1.new _ = B
  have zB : B.size = A1.size + 1 := by rw [← hB]; rfl
  have hEB : Ext A1 B := by rw [← hB]; exact Ext.new _ _
  have gB : B.get A1.size = .cells [.pointer none, Sl.nil.v] (tagB 101) := by rw [← hB]; exact AH.gNs _ _
  clear hB
  have hEA : Ext A B := (by ((repeat' (first | exact Ext.refl _ | assumption | refine Ext.trans ?_ (Ext.new _ _) | refine Ext.put ?_ ?_ _ | refine Ext.trans ?_ (by assumption))) <;> (first | omega | (simp only [AH.zN, AH.zP] <;> omega))))
  refine Wp.loopC (fun k e A' => e 3 = .pointer (some ⟨A1.size, 0, none⟩) ∧ e 10 = s.v ∧ e 11 = .int .i64 p.length ∧ (∀ x, x < A1.size → A'.get x = B.get x) ∧ B.size ≤ A'.size ∧
   ∃ i : Nat, i ≤ p.length ∧ k = p.length - i ∧ e 12 = .int .i64 i ∧ ∃ F, BldV 101 5 B.size A' A1.size F (linesS (p.take i))) (p.length - 0) ?_ ?_
  ·simp (maxSteps := 2000000) (disch := first | omega | (simp only [AH.zN, AH.zP] <;> omega) | fail) only [amV, amH, amQ, amL, amN Tryd.prog, amS, seval, reduceCtorEq, ty3, ty4, ty9, ty27, ty29, ty69, ty97, ty99, ty101]
   exact ⟨fun _ _ => trivial, 0, by omega, rfl, rfl, [], .start (by omega) gB⟩
  ·rintro k e A' ⟨e3, e10, e11, lo, hz, i, hi, rfl, e12, F', hb⟩
   simp (maxSteps := 2000000) (disch := first | omega | (simp only [AH.zN, AH.zP] <;> omega) | fail) only [amR Tryd.prog ro X, amS, seval, reduceCtorEq, ty3, ty4, ty9, ty27, ty29, ty69, ty97, ty99, ty101, e11, e12]
   refine CondB.split (fun h => ?_) (fun h => ?_)
   ·have hil : i < p.length := by simp at h; omega
    have hEA' : Ext A A' := ⟨by have := hEA.size; omega, fun x hx => (lo x (by omega)).trans (hEA.get x hx)⟩
    obtain ⟨n1, b1, i1, c1, q1⟩ := (hs.ext hEA').ins hil
    obtain ⟨w1, w2, w3, w4, w5⟩ := insB (hp3 _ (List.getElem_mem hil))
    simp (maxSteps := 2000000) (disch := first | omega | (simp only [AH.zN, AH.zP] <;> omega) | fail) only [amR Tryd.prog ro X, amS, seval, reduceCtorEq, ty3, ty4, ty9, ty27, ty29, ty69, ty97, ty99, ty101, e3, e10, e11, e12, n1, c1]
    generalize hC : AH.put (A'.new _) A'.size _ = C
    have zC : C.size = A'.size + 1 := by rw [← hC]; rfl
    have hEC : Ext A' C := by rw [← hC]; exact (by ((repeat' (first | exact Ext.refl _ | assumption | refine Ext.trans ?_ (Ext.new _ _) | refine Ext.put ?_ ?_ _ | refine Ext.trans ?_ (by assumption))) <;> (first | omega | (simp only [AH.zN, AH.zP] <;> omega))))
    clear hC
    have hEAC : Ext A C := hEA'.trans hEC
    refine (Line.insLine_a C (by omega) (hT.ext hEAC) (hP.ext hEAC) p[i] w1 w2 w3 w4 w5).mono ?_
    rintro r D ⟨rfl, hED⟩
    have zD := hED.size
    have hls := lineS_size p[i] w3 w5
    simp (maxSteps := 2000000) (disch := first | omega | (simp only [AH.zN, AH.zP] <;> omega) | fail) only [amR Tryd.prog ro X, amS, seval, reduceCtorEq, ty3, ty4, ty9, ty27, ty29, ty69, ty97, ty99, ty101, e3]
    have hbl := linesB (p := p.take i) (fun x hx => hp3 x (List.mem_of_mem_take hx)) (by rw [List.length_take]; omega)
    have e1 : (⟨#[10]⟩ : ByteArray).size = 1 := rfl
    refine (Bld.write_a hXB D B.size A1.size (by omega) (by omega) (by omega) F' _ _ ((hb.ext hEC).ext hED) (by rw [ByteArray.size_append]; omega)).mono ?_
    rintro r A5 ⟨F5, rfl, hb5, z5, o5⟩
    simp (maxSteps := 2000000) (disch := first | omega | (simp only [AH.zN, AH.zP] <;> omega) | fail) only [amR Tryd.prog ro X, amS, seval, reduceCtorEq, ty3, ty4, ty9, ty27, ty29, ty69, ty97, ty99, ty101, e3, e10, e11, e12]
    have hf := hb.foot
    refine ⟨p.length - (i + 1), by omega, fun x hx => ?_, by omega, i + 1, by omega, rfl, by simp, F5, ?_⟩
    ·rw [o5 x (by omega) (by omega) (fun hm => by have := (hf x hm).1; omega), hED.get x (by omega), hEC.get x (by omega)]; exact lo x hx
    ·rw [List.take_succ_eq_append_getElem hil, linesS_snoc]; exact hb5
   ·have hil : i = p.length := by simp at h; omega
    subst hil
    rw [List.take_length] at hb
    simp (maxSteps := 2000000) (disch := first | omega | (simp only [AH.zN, AH.zP] <;> omega) | fail) only [amR Tryd.prog ro X, amS, seval, reduceCtorEq, ty3, ty4, ty9, ty27, ty29, ty69, ty97, ty99, ty101, e3]
    have hbl := linesB hp3 hp2
    refine (Bld.string_a hXB A' B.size A1.size (by omega) F' _ hb (linesS_pos hp1) (by omega)).mono ?_
    rintro r A6 ⟨rfl, z6, o6⟩
    simp (maxSteps := 2000000) (disch := first | omega | (simp only [AH.zN, AH.zP] <;> omega) | fail) only [amR Tryd.prog ro X, amS, seval, reduceCtorEq, ty3, ty4, ty9, ty27, ty29, ty69, ty97, ty99, ty101]
    have hf := hb.foot
    exact ⟨by unfold progS; rw [if_pos hp], by have := hEA.size; omega, fun x hx => by rw [o6 x (fun hm => by have := (hf x hm).1; omega), lo x (by omega)]; exact hEA.get x hx⟩
 ·simp (maxSteps := 2000000) (disch := first | omega | (simp only [AH.zN, AH.zP] <;> omega) | fail) only [amR Tryd.prog ro X, amS, seval, reduceCtorEq, ty3, ty4, ty9, ty27, ty29, ty69, ty97, ty99, ty101, hp]
  exact ⟨by unfold progS; rw [if_neg hp], (by ((repeat' (first | exact Ext.refl _ | assumption | refine Ext.trans ?_ (Ext.new _ _) | refine Ext.put ?_ ?_ _ | refine Ext.trans ?_ (by assumption))) <;> (first | omega | (simp only [AH.zN, AH.zP] <;> omega))))⟩
theorem spec_a (A : AH) (hro : ro ≤ A.size) (s : Sl) (p : TProgram) (F : List Nat) (hs : SlR A s p F) (hpl : p.length < 281474976710656) :
 ACalls Tryd.prog ro X 12 [.agg #[s.v]] A (fun r A' => r = .ret (.string (progS p)) ∧ Ext A A') := by
 refine ACalls.enterQ (rs := [.tmp 2]) Tryd.func12 rfl (by kernel_rfl) rfl ?_
 have hlen := hs.len
 simp (maxSteps := 2000000) (disch := first | omega | (simp only [AH.zN, AH.zP] <;> omega) | fail) only [amR Tryd.prog ro X, amS, seval, reduceCtorEq, ty3, ty4, ty5, ty9, ty27, ty29, ty69, ty97]
 refine (Prog.specValid_a _ (by first | omega | (simp only [AH.zN, AH.zP] <;> omega)) s p F (hs.ext (by ((repeat' (first | exact Ext.refl _ | assumption | refine Ext.trans ?_ (Ext.new _ _) | refine Ext.put ?_ ?_ _ | refine Ext.trans ?_ (by assumption))) <;> (first | omega | (simp only [AH.zN, AH.zP] <;> omega))))) hpl).mono ?_
 rintro r A1 ⟨rfl, hE1⟩
 have z1 := hE1.size
 simp only [AH.zN] at z1
 have b1 : A1.get A.size = .cells [s.v] 1 := (hE1.get A.size (by first | omega | (simp only [AH.zN, AH.zP] <;> omega))).trans (AH.gNs _ _)
 by_cases hp : ProgOk p
 ·obtain ⟨hp1, hp2, hp3⟩ := hp
  have hp : ProgOk p := ⟨hp1, hp2, hp3⟩
  simp (maxSteps := 2000000) (disch := first | omega | (simp only [AH.zN, AH.zP] <;> omega) | fail) only [amR Tryd.prog ro X, amS, seval, reduceCtorEq, ty3, ty4, ty5, ty9, ty27, ty29, ty69, ty97, hp]
  generalize hB : A1.new _ = B
  have zB : B.size = A1.size + 1 := by rw [← hB]; rfl
  have hEB : Ext A1 B := by rw [← hB]; exact Ext.new _ _
  have gB := (hEB.get A.size (by omega)).trans b1
  clear hB
  have hEA : Ext A B := (by ((repeat' (first | exact Ext.refl _ | assumption | refine Ext.trans ?_ (Ext.new _ _) | refine Ext.put ?_ ?_ _ | refine Ext.trans ?_ (by assumption))) <;> (first | omega | (simp only [AH.zN, AH.zP] <;> omega))))
  refine Wp.loopC (fun k e A' => e 1 = .pointer (some ⟨A.size, 0, none⟩) ∧ Ext B A' ∧
   ∃ i : Nat, i ≤ p.length ∧ k = p.length - i ∧ e 4 = .int .i64 i ∧ ∃ u, e 3 = u.v ∧ AM.Acc B.size A' u (ls (linesS (p.take i))) [] ∧ u.nl = false) (p.length - 0) ?_ ?_
  ·simp (maxSteps := 2000000) (disch := first | omega | (simp only [AH.zN, AH.zP] <;> omega) | fail) only [amV, amH, amQ, amL, amN Tryd.prog, amS, seval, reduceCtorEq, ty3, ty4, ty5, ty9, ty27, ty29, ty69, ty97]
   exact ⟨Ext.refl _, 0, by omega, rfl, rfl, _, rfl, .empty A1.size 0, rfl⟩
  ·rintro k e A' ⟨e1, hE, i, hi, rfl, e4, u, e3, hacc, hnl⟩
   have zE := hE.size
   have gA := (hE.get A.size (by omega)).trans gB
   have hcl := hacc.len
   rw [ls_length] at hcl
   simp (maxSteps := 2000000) (disch := first | omega | (simp only [AH.zN, AH.zP] <;> omega) | fail) only [amR Tryd.prog ro X, amS, seval, reduceCtorEq, ty3, ty4, ty5, ty9, ty27, ty29, ty69, ty97, e1, e4, gA, hlen]
   refine CondB.split (fun h => ?_) (fun h => ?_)
   ·have hil : i < p.length := by simp at h; omega
    obtain ⟨n1, b1, i1, c1, q1⟩ := (hs.ext (hEA.trans hE)).ins hil
    obtain ⟨w1, w2, w3, w4, w5⟩ := insB (hp3 _ (List.getElem_mem hil))
    simp (maxSteps := 2000000) (disch := first | omega | (simp only [AH.zN, AH.zP] <;> omega) | fail) only [amR Tryd.prog ro X, amS, seval, reduceCtorEq, ty3, ty4, ty5, ty9, ty27, ty29, ty69, ty97, e1, e3, e4, gA, n1, c1]
    refine (Line.l2Line_a A' (by omega) p[i] w1 w2 w3 w4 w5).mono ?_
    rintro r D ⟨rfl, hED⟩
    have zD := hED.size
    have hls := lineS_size p[i] w3 w5
    have hbl := linesB (p := p.take i) (fun x hx => hp3 x (List.mem_of_mem_take hx)) (by rw [List.length_take]; omega)
    obtain ⟨u2, D2, hap, hs2, hg2, hor⟩ := (hacc.ext hED).app (P := Tryd.prog) (ro := ro) (t := 69) (x := .string (lineS p[i])) (n := (lineS p[i]).size) (vs := bytesOf (lineS p[i])) (xs := ls (lineS p[i])) (Gx := []) (by omega) (by simp only [ty69]; rfl) rfl (ls_length _).symm (by rw [bytesOf_ls]; exact Reps.ofU8 _ _) (.inr (by simp)) (by rw [ls_length]; omega) (by omega) (fun h => by rw [hnl] at h; cases h)
    have hnl2 : u2.nl = false := by rcases hor with h | h; exact h.1.trans hnl; exact h.2
    have hE2 := hg2.ext (hE.trans hED) (Nat.le_refl _)
    have zD2 := hg2.size
    obtain ⟨u3, D3, hap3, hs3, hg3, _, hor3⟩ := hs2.lit (P := Tryd.prog) (ro := ro) (t := 69) (n := 1) (vs := [.int .u8 10]) (xs := [10]) (by omega) (by simp only [ty69]; rfl) rfl (Reps.one ⟨rfl, rfl⟩) (.inr (by simp)) (by rw [List.length_append, ls_length, ls_length]; omega) (by omega)
    rw [show Dat.w UInt8 = 1 from rfl] at hap3
    have hnl3 : u3.nl = false := by rcases hor3 with h | h; exact h.1.trans hnl2; exact h.2
    simp (maxSteps := 2000000) (disch := first | omega | (simp only [AH.zN, AH.zP] <;> omega) | fail) only [amR Tryd.prog ro X, amS, seval, reduceCtorEq, ty3, ty4, ty5, ty9, ty27, ty29, ty69, ty97, e1, e3, e4, hap, hap3]
    refine ⟨p.length - (i + 1), by omega, hg3.ext hE2 (Nat.le_refl _), i + 1, by omega, rfl, by simp, u3, rfl, ?_, hnl3⟩
    rw [List.take_succ_eq_append_getElem hil, linesS_snoc]
    have : ls (linesS (p.take i) ++ (lineS p[i] ++ ⟨#[10]⟩)) = ls (linesS (p.take i)) ++ ls (lineS p[i]) ++ [10] := by unfold ls; simp
    rw [this]
    simpa using hs3
   ·have hil : i = p.length := by simp at h; omega
    subst hil
    rw [List.take_length] at hacc
    obtain ⟨F', hF, _⟩ := hacc.slr
    simp (maxSteps := 2000000) (disch := first | omega | (simp only [AH.zN, AH.zP] <;> omega) | fail) only [amR Tryd.prog ro X, amS, seval, reduceCtorEq, ty3, ty4, ty5, ty9, ty27, ty29, ty69, ty97, e3, hF.toStr, bs_ls]
    exact ⟨by unfold progS; rw [if_pos hp], hEA.trans hE⟩
 ·simp (maxSteps := 2000000) (disch := first | omega | (simp only [AH.zN, AH.zP] <;> omega) | fail) only [amR Tryd.prog ro X, amS, seval, reduceCtorEq, ty3, ty4, ty5, ty9, ty27, ty29, ty69, ty97, hp]
  exact ⟨by unfold progS; rw [if_neg hp], (by ((repeat' (first | exact Ext.refl _ | assumption | refine Ext.trans ?_ (Ext.new _ _) | refine Ext.put ?_ ?_ _ | refine Ext.trans ?_ (by assumption))) <;> (first | omega | (simp only [AH.zN, AH.zP] <;> omega))))⟩
end Go.Proofs.YtjlbcofopapajaaDoor.Amu.Print
