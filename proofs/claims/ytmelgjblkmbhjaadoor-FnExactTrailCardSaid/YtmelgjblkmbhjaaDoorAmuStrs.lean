import Derived.Test.YtmelgjblkmbhjaaDoorAmuTy
import Derived.Test.YtmelgjblkmbhjaaDoorAmM
import Derived.Test.YtmelgjblkmbhjaaDoorProg
namespace Go.Proofs.YtmelgjblkmbhjaaDoor.Amu.Strs
open Go Go.AM Go.Proofs
set_option linter.unusedVariables false
set_option linter.unusedSimpArgs false
open Ty
variable {ro : Nat} {X : FuncId → List Value → AH → ARes → AH → Prop}
set_option maxRecDepth 10000
theorem eqStringS_a (A : AH) (s t : Sl) (l k : List ByteArray) (F G : List Nat) (hs : SlR A s l F) (ht : SlR A t k G) (hl : l.length < 4294967296) :
 ACalls Tryd.prog ro X 83 [s.v, t.v] A (fun r A' => r = .ret (.bool (decide (l = k))) ∧ A' = A) := by
 refine ACalls.enterQ (rs := [.tmp 4]) Tryd.func83 rfl (by kernel_rfl) rfl ?_
 simp (disch := first | omega | fail) only [amR Tryd.prog ro X, amS, seval, reduceCtorEq, ty3, ty9, ty43, hs.len, ht.len]
 refine CondB.split (fun h => ?_) (fun h => ?_)
 ·simp (disch := first | omega | fail) only [amR Tryd.prog ro X, amS, seval, reduceCtorEq, ty3, ty9, ty43]
  have : l ≠ k := fun e => by simp [e] at h
  simp [this]
 ·simp (disch := first | omega | fail) only [amR Tryd.prog ro X, amS, seval, reduceCtorEq, ty3, ty9, ty43]
  have hlk : l.length = k.length := by simp at h; omega
  refine Wp.loopC (fun n e A' => A' = A ∧ e 0 = s.v ∧ e 1 = t.v ∧ ∃ i : Nat, i ≤ l.length ∧ n = l.length - i ∧ e 5 = .int .i64 i ∧ l.take i = k.take i) (l.length - 0) ?_ ?_
  ·simp (disch := first | omega | fail) only [amV, amH, amQ, amL, amN Tryd.prog, amS, seval, reduceCtorEq, ty3, ty9, ty43]
   exact ⟨0, by simp, rfl, rfl, by simp⟩
  ·rintro n e A' ⟨rfl, h0, h1, i, hi, rfl, h5, heq⟩
   simp (disch := first | omega | fail) only [amR Tryd.prog ro X, amS, seval, reduceCtorEq, ty3, ty9, ty43, h0, h1, h5, hs.len]
   refine CondB.split (fun h => ?_) (fun h => ?_)
   ·simp (disch := first | omega | fail) only [amR Tryd.prog ro X, amS, seval, reduceCtorEq, ty3, ty9, ty43]
    have hil : i < l.length := by simp at h; omega
    obtain ⟨n1, b1, m1, i1, c1, _⟩ := hs.str hil
    obtain ⟨n2, b2, m2, i2, c2, _⟩ := ht.str (i := i) (by omega)
    rw [aCell_eq] at c1 c2
    refine Wp.runG [] (by kernel_rfl) (.inl (by kernel_rfl)) ?_
    simp (disch := first | omega | fail) only [amR Tryd.prog ro X, amS, seval, reduceCtorEq, ty3, ty9, ty43, h0, h1, h5, n1, n2, c1, c2]
    refine CondB.split (fun h => ?_) (fun h => ?_)
    ·simp (disch := first | omega | fail) only [amR Tryd.prog ro X, amS, seval, reduceCtorEq, ty3, ty9, ty43]
     have : l ≠ k := by
      intro e
      subst e
      simp at h
     simp [this]
    ·simp (disch := first | omega | fail) only [amR Tryd.prog ro X, amS, seval, reduceCtorEq, ty3, ty9, ty43, h0, h1, h5]
     refine ⟨l.length - (i + 1), by omega, i + 1, by omega, rfl, by simp, ?_⟩
     rw [List.take_succ_eq_append_getElem hil, List.take_succ_eq_append_getElem (by omega : i < k.length), heq]
     have : l[i] = k[i] := by simpa using h
     rw [this]
   ·simp (disch := first | omega | fail) only [amR Tryd.prog ro X, amS, seval, reduceCtorEq, ty3, ty9, ty43]
    have : l = k := by
     have hi2 : i = l.length := by simp at h; omega
     subst hi2
     rw [List.take_length] at heq
     rw [hlk, List.take_length] at heq
     exact heq
    simp [this]
theorem markText_a (A : AH) (hro : ro ≤ A.size) (k : Int) (hk : 0 ≤ k ∧ k < 1152921504606846976) :
 ACalls Tryd.prog ro X 130 [.int .i64 k] A (fun r A' => r = .ret (.string (mkText k)) ∧ Ext A A') := by
 refine ACalls.enterQ (rs := [.tmp 2]) Tryd.func130 rfl (by kernel_rfl) rfl ?_
 simp (disch := first | omega | fail) only [amR Tryd.prog ro X, amS, seval, reduceCtorEq, ty3, ty5, ty9, ty103]
 refine CondB.split (fun h => ?_) (fun h => ?_)
 ·simp (disch := first | omega | fail) only [amR Tryd.prog ro X, amS, seval, reduceCtorEq, ty3, ty5, ty9, ty103]
  have : k ≤ 0 := by simpa using h
  simp [mkText, this, Ext.refl]
 ·simp (disch := first | omega | fail) only [amR Tryd.prog ro X, amS, seval, reduceCtorEq, ty3, ty5, ty9, ty103]
  have hk0 : ¬ k ≤ 0 := by simpa using h
  refine Wp.loopC (fun n e A' => Ext A A' ∧ ∃ s : ByteArray, e 0 = .int .i64 (n : Nat) ∧ e 3 = .string s ∧ s.size + n < 1152921504606846976 ∧ mkGo n s = mkGo k.toNat ByteArray.empty) k.toNat ?_ ?_
  ·simp (disch := first | omega | fail) only [amV, amH, amQ, amL, amN Tryd.prog, amS, seval, reduceCtorEq, ty3, ty5, ty9, ty103]
   refine ⟨Ext.refl A, ByteArray.empty, by congr 1 <;> omega, rfl, by show 0 + _ < _; omega, rfl⟩
  ·rintro n e A' ⟨hE, s, h0, h3, hs, heq⟩
   simp (disch := first | omega | fail) only [amR Tryd.prog ro X, amS, seval, reduceCtorEq, ty3, ty5, ty9, ty103, h0, h3]
   refine CondB.split (fun h => ?_) (fun h => ?_)
   ·have hn : 0 < n := by simp at h; omega
    simp (disch := first | omega | fail) only [amR Tryd.prog ro X, amS, seval, reduceCtorEq, ty3, ty5, ty9, ty103, h0, h3]
    refine ⟨n / 10, by omega, hE.trans (Ext.new _ _), _, by congr 1, rfl, ?_, ?_⟩
    ·rw [ByteArray.size_append]
     show 1 + s.size + n / 10 < _
     omega
    ·rw [← heq]
     conv => rhs; unfold mkGo
     rw [if_neg (by omega)]
     congr 5
   ·have hn : n = 0 := by simp at h; omega
    subst hn
    simp (disch := first | omega | fail) only [amR Tryd.prog ro X, amS, seval, reduceCtorEq, ty3, ty5, ty9, ty103, h3]
    refine ⟨?_, hE⟩
    have e0 : mkGo 0 s = s := by unfold mkGo; rfl
    rw [mkText, if_neg hk0, ← heq, e0]
theorem markStringS_a (A : AH) (hro : ro ≤ A.size) (s : Sl) (l : List ByteArray) (F : List Nat) (hs : SlR A s l F) (hF : ∀ b, b ∈ F → ro ≤ b) (hN : F.Nodup) (hl : l.length < 281474976710656) (k : Int) (hk : 0 ≤ k ∧ k < 281474976710656) :
 ACalls Tryd.prog ro X 124 [s.v, .int .i64 k] A (fun r A' => r = .ret (.int .i64 (k + l.length)) ∧ SlR A' s (mkStrs k l.length) F ∧ ExtX F A A') := by
 refine ACalls.enterQ (rs := [.tmp 4]) Tryd.func124 rfl (by kernel_rfl) rfl ?_
 simp (disch := first | omega | fail) only [amR Tryd.prog ro X, amS, seval, reduceCtorEq, ty3, ty9, ty43]
 refine Wp.loopC (fun n e A' => ExtX F A A' ∧ e 0 = s.v ∧ ∃ i : Nat, i ≤ l.length ∧ n = l.length - i ∧ e 5 = .int .i64 i ∧ e 1 = .int .i64 (k + i) ∧ SlR A' s (mkStrs k i ++ l.drop i) F) (l.length - 0) ?_ ?_
 ·simp (disch := first | omega | fail) only [amV, amH, amQ, amL, amN Tryd.prog, amS, seval, reduceCtorEq, ty3, ty9, ty43]
  exact ⟨ExtX.refl F A, 0, by omega, rfl, rfl, by congr 1 <;> omega, by simpa [mkStrs] using hs⟩
 ·rintro n e A' ⟨hE, h0, i, hi, rfl, h5, h1, hs'⟩
  have hlen : s.len = l.length := hs.len
  have hz := hE.size
  simp (disch := first | omega | fail) only [amR Tryd.prog ro X, amS, seval, reduceCtorEq, ty3, ty9, ty43, h0, h5, hlen]
  refine CondB.split (fun h => ?_) (fun h => ?_)
  ·have hil : i < l.length := by simp at h; omega
   simp (disch := first | omega | fail) only [amR Tryd.prog ro X, amS, seval, reduceCtorEq, ty3, ty9, ty43, h0, h5, h1]
   refine (markText_a A' (by omega) (k + i) (by omega)).mono ?_
   rintro r A2 ⟨rfl, hE2⟩
   have hz2 := hE2.size
   obtain ⟨c, G1, Fi, G2, ci, n1, b1, i1, g1, hc, rfl, _, ⟨_, rfl, _⟩, hup⟩ := (hs'.ext hE2).focus (i := i) (by simp [mkStrs_length]; omega)
   have hb : s.b ∈ s.b :: (G1 ++ ([] ++ G2)) := by simp
   have hrb := hF _ hb
   simp only [Dat.w, Nat.mul_one] at g1 hc hup
   obtain ⟨q1, q2, q3⟩ := nodup_focus hN
   have hbd := (hs'.ext hE2).bound
   simp (disch := first | omega | fail) only [amR Tryd.prog ro X, amS, seval, reduceCtorEq, ty3, ty9, ty43, h0, h5, h1, n1, g1]
   refine ⟨l.length - (i + 1), by omega, (hE.trans (hE2.x _)).put (by simp) _, i + 1, by omega, rfl, by congr 1 <;> omega, by congr 1 <;> omega, ?_⟩
   have := hup (A2.put s.b (.cells (c.set (s.o + i) (.string (mkText (k + i)))) 1)) (mkText (k + i)) [] _ (AH.gPs _ _ _) b1 (by simp) (fun j hj => List.getElem?_set_ne (by omega))
    (put_frame q1 fun x hx => hbd x (by rcases List.mem_append.1 hx with hx | hx <;> simp [hx])) ⟨?_, rfl, mkText_size _ (by omega)⟩
   ·rw [set_append_drop _ _ _ _ (mkStrs_length k i) hil, ← mkStrs_succ] at this
    exact this
   ·have := setCells_self c [.string (mkText (k + i))] (s.o + i) (by simpa using hc)
    simpa [setCells] using this
  ·have hil : i = l.length := by simp at h; omega
   subst hil
   simp (disch := first | omega | fail) only [amR Tryd.prog ro X, amS, seval, reduceCtorEq, ty3, ty9, ty43, h1]
   rw [List.drop_length, List.append_nil] at hs'
   exact ⟨hs', hE⟩
theorem heldStringS_a (A : AH) (hro : ro ≤ A.size) (s : Sl) (l : List ByteArray) (F : List Nat) (hs : SlR A s l F) (hl : l.length < 281474976710656) (k : Int) (hk : 0 ≤ k ∧ k < 281474976710656) :
 ACalls Tryd.prog ro X 125 [s.v, .int .i64 k] A (fun r A' => r = .ret (.int .i64 (if l = mkStrs k l.length then k + l.length else -1)) ∧ Ext A A') := by
 refine ACalls.enterQ (rs := [.tmp 4]) Tryd.func125 rfl (by kernel_rfl) rfl ?_
 simp (disch := first | omega | fail) only [amR Tryd.prog ro X, amS, seval, reduceCtorEq, ty3, ty9, ty43]
 refine Wp.loopC (fun n e A' => Ext A A' ∧ e 0 = s.v ∧ ∃ i : Nat, i ≤ l.length ∧ n = l.length - i ∧ e 5 = .int .i64 i ∧ e 1 = .int .i64 (k + i) ∧ l.take i = mkStrs k i) (l.length - 0) ?_ ?_
 ·simp (disch := first | omega | fail) only [amV, amH, amQ, amL, amN Tryd.prog, amS, seval, reduceCtorEq, ty3, ty9, ty43]
  exact ⟨Ext.refl A, 0, by omega, rfl, rfl, by congr 1 <;> omega, by simp [mkStrs]⟩
 ·rintro n e A' ⟨hE, h0, i, hi, rfl, h5, h1, heq⟩
  have hs' := hs.ext hE
  have hz := hE.size
  simp (disch := first | omega | fail) only [amR Tryd.prog ro X, amS, seval, reduceCtorEq, ty3, ty9, ty43, h0, h5, hs.len]
  refine CondB.split (fun h => ?_) (fun h => ?_)
  ·have hil : i < l.length := by simp at h; omega
   simp (disch := first | omega | fail) only [amR Tryd.prog ro X, amS, seval, reduceCtorEq, ty3, ty9, ty43, h0, h5, h1]
   obtain ⟨n1, b1, m1, i1, c1, q1⟩ := hs'.str hil
   rw [aCell_eq] at c1
   refine Wp.runG [5] (by kernel_rfl) (.inl (by kernel_rfl)) ?_
   simp (disch := first | omega | fail) only [amR Tryd.prog ro X, amS, seval, reduceCtorEq, ty3, ty9, ty43, h0, h5, h1, n1, c1]
   refine (markText_a A' (by omega) (k + i) (by omega)).mono ?_
   rintro r A2 ⟨rfl, hE2⟩
   simp (disch := first | omega | fail) only [amR Tryd.prog ro X, amS, seval, reduceCtorEq, ty3, ty9, ty43]
   refine ⟨hE2.get, ?_⟩
   refine CondB.split (fun h => ?_) (fun h => ?_)
   ·simp (disch := first | omega | fail) only [amR Tryd.prog ro X, amS, seval, reduceCtorEq, ty3, ty9, ty43]
    have : l ≠ mkStrs k l.length := by
     intro e
     have e2 : l[i] = mkText (k + i) := by
      have := mkStrs_get k l.length i (by rw [mkStrs_length]; exact hil)
      rw [← this]
      congr 1
     simp [e2] at h
    rw [if_neg this]
    exact ⟨rfl, hE.trans hE2⟩
   ·simp (disch := first | omega | fail) only [amR Tryd.prog ro X, amS, seval, reduceCtorEq, ty3, ty9, ty43, h0, h5, h1]
    refine ⟨l.length - (i + 1), by omega, hE.trans hE2, i + 1, by omega, rfl, by congr 1 <;> omega, by congr 1 <;> omega, ?_⟩
    have : l[i] = mkText (k + i) := by simpa using h
    rw [List.take_succ_eq_append_getElem hil, heq, mkStrs_succ, this]
  ·have hil : i = l.length := by simp at h; omega
   subst hil
   simp (disch := first | omega | fail) only [amR Tryd.prog ro X, amS, seval, reduceCtorEq, ty3, ty9, ty43, h1]
   rw [List.take_length] at heq
   rw [if_pos heq]
   exact ⟨rfl, hE⟩
end Go.Proofs.YtmelgjblkmbhjaaDoor.Amu.Strs
