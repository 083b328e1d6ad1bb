import Derived.Test.YtmelgjblkmbhjaaGreatDoorAmuTy
import Derived.Test.YtmelgjblkmbhjaaGreatDoorAmSpk
import Derived.Test.YtmelgjblkmbhjaaGreatDoorAmuProg
import Derived.Test.YtmelgjblkmbhjaaGreatDoorAmuSpace
namespace Go.Proofs.YtmelgjblkmbhjaaGreatDoor.Amu.Smk
open Go Go.AM Go.Proofs
set_option linter.all false
open Ty
variable {ro : Nat} {X : FuncId → List Value → AH → ARes → AH → Prop}
set_option maxRecDepth 10000
theorem placeOf_look {α : Type} (n : ByteArray) (l : List (ByteArray × α)) : decide (0 ≤ placeOf n l) = (lookL n l).isSome := by
 unfold placeOf
 have key : (l.findIdx? (fun x => decide (x.1 = n))).isSome = (lookL n l).isSome := by
  induction l with
  | nil => rfl
  | cons x l ih =>
    rw [List.findIdx?_cons]
    unfold lookL
    by_cases e : x.1 = n
    ·simp [e]
    ·simp only [e, decide_false, Bool.false_eq_true, if_false]
     rw [← ih]
     cases l.findIdx? _ <;> rfl
 rw [← key]
 cases l.findIdx? (fun x => decide (x.1 = n)) with
 | none => rfl
 | some i => simp
theorem l3Source_a (A : AH) (hro : ro ≤ A.size) (s1 s2 : Sl) (x : TSpace) (F1 : List Nat) (h1 : SlR A s1 x.1 F1) (n : ByteArray) (hl : x.1.length < 1152921504606846976) :
 ACalls Tryz.prog ro X 171 [.agg #[s1.v, s2.v], .string n] A (fun r A' => r = .ret (.int .i64 (placeOf n x.1)) ∧ Ext A A') := by
 refine ACalls.enterQ (rs := [.tmp 4]) Tryz.func171 rfl (by kernel_rfl) rfl ?_
 have hl1 := h1.len
 simp (disch := first | omega | fail) only [amR Tryz.prog ro X, amS, seval, reduceCtorEq, ty3, ty9, ty42, ty43, ty45, ty147]
 refine Wp.loopC (fun k e A' => A' = A.new (.cells [s1.v, s2.v] 2) ∧ e 1 = .string n ∧ e 2 = .pointer (some ⟨A.size, 0, none⟩) ∧ ∃ i : Nat, i ≤ x.1.length ∧ k = x.1.length - i ∧ e 5 = .int .i64 i ∧ ∀ y ∈ x.1.take i, y.1 ≠ n) (x.1.length - 0) ?_ ?_
 ·simp (disch := first | omega | fail) only [amV, amH, amQ, amL, amN Tryz.prog, amS, seval, reduceCtorEq, ty3, ty9, ty42, ty43, ty45, ty147]
  exact ⟨0, by omega, rfl, rfl, by simp⟩
 ·rintro k e A' ⟨rfl, g1, g2, i, hi, rfl, g5, hall⟩
  simp (disch := first | omega | fail) only [amR Tryz.prog ro X, amS, seval, reduceCtorEq, ty3, ty9, ty42, ty43, ty45, ty147, g1, g2, g5, hl1]
  refine CondB.split (fun h => ?_) (fun h => ?_)
  ·have hil : i < x.1.length := by simpa using h
   obtain ⟨c, n1, b1, i1, c1, c2, c3, c4, q1, q2⟩ := (h1.ext (Ext.new A (.cells [s1.v, s2.v] 2))).source hil
   have r0 : c[s1.o + i * 2]? = some (.string x.1[i].1) := by
    unfold rowK at c4
    simp only at c4
    split at c4
    ·have := congrArg (fun l : List Value => l[0]?) (Option.some.inj c4)
     simpa [List.getElem?_take, List.getElem?_drop] using this
    ·cases c4
   by_cases hn : x.1[i].1 = n
   ·simp (disch := first | omega | fail) only [amR Tryz.prog ro X, amS, seval, reduceCtorEq, ty3, ty9, ty42, ty43, ty45, ty147, g1, g2, g5, n1, c1, r0, hn]
    refine ⟨?_, Ext.new _ _⟩
    rw [placeOf_some hil hall hn]
   ·simp (disch := first | omega | fail) only [amR Tryz.prog ro X, amS, seval, reduceCtorEq, ty3, ty9, ty42, ty43, ty45, ty147, g1, g2, g5, n1, c1, r0, hn]
    exact ⟨x.1.length - (i + 1), by omega, i + 1, by omega, rfl, by simp, (all_take_succ hil).2 ⟨hall, hn⟩⟩
  ·have hil : i = x.1.length := by simp at h; omega
   subst hil
   rw [List.take_length] at hall
   simp (disch := first | omega | fail) only [amR Tryz.prog ro X, amS, seval, reduceCtorEq, ty3, ty9, ty42, ty43, ty45, ty147]
   refine ⟨?_, Ext.new _ _⟩
   rw [placeOf_none hall]
theorem has_a {K : Skc} {A : AH} {S : CSh} {md st : Sl} {G : List Nat} {x : TResult} {ch : Sl} {dead : Bool} (h : SpV K A S md st G x ch dead) (hro : ro ≤ A.size) (h1 : K.sp.1.length ≤ 200) (h2 : K.sp.2.length ≤ 200) (n : ByteArray) :
 ACalls Tryz.prog ro X 192 [.pointer (some ⟨K.p, 0, none⟩), .string n] A (fun r A' => r = .ret (.bool (hasR K.sp n)) ∧ Ext A A') := by
 refine ACalls.enterQ (rs := [.tmp 4]) Tryz.func192 rfl (by kernel_rfl) rfl ?_
 have gp := h.gp
 unfold scV at gp
 obtain ⟨F1, q1⟩ := h.src
 obtain ⟨F2, q2⟩ := h.tgt
 simp (disch := first | omega | fail) only [amR Tryz.prog ro X, amS, seval, reduceCtorEq, ty3, ty4, ty22, ty42, ty43, ty45, ty79, ty154, ty156, gp]
 refine (l3Source_a A hro K.s1 K.s2 K.sp F1 (q1.ext h.base) n (by omega)).mono ?_
 rintro r B ⟨rfl, hE⟩
 have gp1 := (hE.get K.p h.p1).trans gp
 have e1 := placeOf_look n K.sp.1
 have e2 := placeOf_look n K.sp.2
 cases hs : (lookL n K.sp.1).isSome with
 | true =>
   have e1' : (0 : Int) ≤ placeOf n K.sp.1 := by rw [hs] at e1; exact of_decide_eq_true e1
   simp (disch := first | omega | fail) only [amR Tryz.prog ro X, amS, seval, reduceCtorEq, ty3, ty4, ty22, ty42, ty43, ty45, ty79, ty154, ty156, gp1, e1']
   refine ⟨?_, hE⟩
   unfold hasR srcR
   rw [hs]; rfl
 | false =>
   have e1' : ¬ (0 : Int) ≤ placeOf n K.sp.1 := by rw [hs] at e1; exact of_decide_eq_false e1
   simp (disch := first | omega | fail) only [amR Tryz.prog ro X, amS, seval, reduceCtorEq, ty3, ty4, ty22, ty42, ty43, ty45, ty79, ty154, ty156, gp1, e1']
   refine (Space.l3Target_a B (by have := hE.size; omega) K.s1 K.s2 K.sp F2 (q2.ext (h.base.trans hE)) n (by omega)).mono ?_
   rintro r B2 ⟨rfl, hE2⟩
   simp (disch := first | omega | fail) only [amR Tryz.prog ro X, amS, seval, reduceCtorEq, ty3, ty4, ty22, ty42, ty43, ty45, ty79, ty154, ty156]
   refine ⟨?_, hE.trans hE2⟩
   unfold hasR srcR tgtR
   rw [hs, ← e2]; simp
theorem find_a {K : Skc} {A : AH} {S : CSh} {md st : Sl} {G : List Nat} {x : TResult} {ch : Sl} {dead : Bool} (h : SpV K A S md st G x ch dead) (n : ByteArray) (hl : S.asked.length < 4294967296) :
 ACalls Tryz.prog ro X 170 [.pointer (some ⟨K.p, 0, none⟩), .string n] A (fun r A' => r = .ret (.int .i64 (idxI n S.asked)) ∧ A' = A) := by
 refine ACalls.enterQ (rs := [.tmp 4]) Tryz.func170 rfl (by kernel_rfl) rfl ?_
 have gp := h.gp
 unfold scV at gp
 have hml := h.smd.len
 rw [rowsOf_len] at hml
 simp (disch := first | omega | fail) only [amR Tryz.prog ro X, amS, seval, reduceCtorEq, ty3, ty4, ty9, ty22, ty45, ty79, ty154, ty156, ty157, ty159, gp]
 refine Wp.loopC (fun k e A' => A' = A ∧ e 0 = .pointer (some ⟨K.p, 0, none⟩) ∧ e 1 = .string n ∧ ∃ i : Nat, i ≤ S.asked.length ∧ k = S.asked.length - i ∧ e 5 = .int .i64 i ∧ idxL n (S.asked.take i) = none) (S.asked.length - 0) ?_ ?_
 ·simp (disch := first | omega | fail) only [amV, amH, amQ, amL, amN Tryz.prog, amS, seval, reduceCtorEq, ty3, ty4, ty9, ty22, ty45, ty79, ty154, ty156, ty157, ty159]
  exact ⟨0, by omega, rfl, rfl, rfl⟩
 rintro k e A' ⟨rfl, e0, e1, i, hi, rfl, e5, hno⟩
 simp (disch := first | omega | fail) only [amR Tryz.prog ro X, amS, seval, reduceCtorEq, ty3, ty4, ty9, ty22, ty45, ty79, ty154, ty156, ty157, ty159, e0, e1, e5, gp, hml]
 refine CondB.split (fun hc => ?_) (fun hc => ?_)
 ·have hil : i < S.asked.length := by simpa using hc
  obtain ⟨c1, c2, s2, y, m1, m2, m3, m4, m5, m6, m7, m8, m9, _, _, _⟩ := h.row (k := i) (by rw [rowsOf_len]; exact hil)
  have hy : y.1 = S.asked[i] := by rw [m7, rowsOf_get, rowOf_name]
  have hc0 : cellK (md.o + i * 6) (A'.get md.b) = some (.string S.asked[i]) := by
   have := cellK_mid (ci := [.string y.1, .int .i64 y.2.1.1, .string y.2.1.2.1, Sl.nil.v, Sl.v s2, .bool y.2.2.2]) (c2 := c2) (e := 6) m9 0 (by simp)
   rw [m8, m2, Nat.zero_add, ← hy]; exact this
  by_cases hx : S.asked[i] = n
  ·simp (disch := first | omega | fail) only [amR Tryz.prog ro X, amS, seval, reduceCtorEq, ty3, ty4, ty9, ty22, ty45, ty79, ty154, ty156, ty157, ty159, e0, e1, e5, gp, m1, hc0, hx]
   unfold idxI
   rw [idxL_here hil hno hx]
  ·simp (disch := first | omega | fail) only [amR Tryz.prog ro X, amS, seval, reduceCtorEq, ty3, ty4, ty9, ty22, ty45, ty79, ty154, ty156, ty157, ty159, e0, e1, e5, gp, m1, hc0, hx]
   exact ⟨S.asked.length - (i + 1), by omega, i + 1, by omega, rfl, by simp, idxL_on hil hno hx⟩
 have hil : i = S.asked.length := by simp at hc; omega
 subst hil
 rw [List.take_length] at hno
 simp (disch := first | omega | fail) only [amR Tryz.prog ro X, amS, seval, reduceCtorEq, ty3, ty4, ty9, ty22, ty45, ty79, ty154, ty156, ty157, ty159]
 unfold idxI
 rw [hno]
end Go.Proofs.YtmelgjblkmbhjaaGreatDoor.Amu.Smk
