import Derived.Test.YtjlbcofopapajaaDoorAmuTy
import Derived.Test.YtjlbcofopapajaaDoorAmM
import Derived.Test.YtjlbcofopapajaaDoorProg
namespace Go.Proofs.YtjlbcofopapajaaDoor.Amu.Strs
open Go Go.AM Go.Proofs
set_option linter.all false
open Ty
variable {ro : Nat} {X : FuncId → List Value → AH → ARes → AH → Prop}
set_option maxRecDepth 10000
theorem eqStringS_a (A : AH) (s t : Sl) (l k : List ByteArray) (F G : List Nat) (hs : SlR A s l F) (ht : SlR A t k G) (hl : l.length < 4294967296) :
 ACalls Tryd.prog ro X 67 [s.v, t.v] A (fun r A' => r = .ret (.bool (decide (l = k))) ∧ A' = A) := by
 refine ACalls.enterQ (rs := [.tmp 4]) Tryd.func67 rfl (by kernel_rfl) rfl ?_
 simp (disch := first | omega | fail) only [amR Tryd.prog ro X, amS, seval, reduceCtorEq, ty3, ty9, ty33, hs.len, ht.len]
 refine CondB.split (fun h => ?_) (fun h => ?_)
 ·simp (disch := first | omega | fail) only [amR Tryd.prog ro X, amS, seval, reduceCtorEq, ty3, ty9, ty33]
  have : l ≠ k := fun e => by simp [e] at h
  simp [this]
 ·simp (disch := first | omega | fail) only [amR Tryd.prog ro X, amS, seval, reduceCtorEq, ty3, ty9, ty33]
  have hlk : l.length = k.length := by simp at h; omega
  refine Wp.loopC (fun n e A' => A' = A ∧ e 0 = s.v ∧ e 1 = t.v ∧ ∃ i : Nat, i ≤ l.length ∧ n = l.length - i ∧ e 5 = .int .i64 i ∧ l.take i = k.take i) (l.length - 0) ?_ ?_
  ·simp (disch := first | omega | fail) only [amV, amH, amQ, amL, amN Tryd.prog, amS, seval, reduceCtorEq, ty3, ty9, ty33]
   exact ⟨0, by simp, rfl, rfl, by simp⟩
  ·rintro n e A' ⟨rfl, h0, h1, i, hi, rfl, h5, heq⟩
   simp (disch := first | omega | fail) only [amR Tryd.prog ro X, amS, seval, reduceCtorEq, ty3, ty9, ty33, h0, h1, h5, hs.len]
   refine CondB.split (fun h => ?_) (fun h => ?_)
   ·simp (disch := first | omega | fail) only [amR Tryd.prog ro X, amS, seval, reduceCtorEq, ty3, ty9, ty33]
    have hil : i < l.length := by simp at h; omega
    obtain ⟨n1, b1, m1, i1, c1, _⟩ := hs.str hil
    obtain ⟨n2, b2, m2, i2, c2, _⟩ := ht.str (i := i) (by omega)
    rw [aCell_eq] at c1 c2
    refine Wp.runG [] (by kernel_rfl) (.inl (by kernel_rfl)) ?_
    simp (disch := first | omega | fail) only [amR Tryd.prog ro X, amS, seval, reduceCtorEq, ty3, ty9, ty33, h0, h1, h5, n1, n2, c1, c2]
    refine CondB.split (fun h => ?_) (fun h => ?_)
    ·simp (disch := first | omega | fail) only [amR Tryd.prog ro X, amS, seval, reduceCtorEq, ty3, ty9, ty33]
     have : l ≠ k := by
      intro e
      subst e
      simp at h
     simp [this]
    ·simp (disch := first | omega | fail) only [amR Tryd.prog ro X, amS, seval, reduceCtorEq, ty3, ty9, ty33, h0, h1, h5]
     refine ⟨l.length - (i + 1), by omega, i + 1, by omega, rfl, by simp, ?_⟩
     rw [List.take_succ_eq_append_getElem hil, List.take_succ_eq_append_getElem (by omega : i < k.length), heq]
     have : l[i] = k[i] := by simpa using h
     rw [this]
   ·simp (disch := first | omega | fail) only [amR Tryd.prog ro X, amS, seval, reduceCtorEq, ty3, ty9, ty33]
    have : l = k := by
     have hi2 : i = l.length := by simp at h; omega
     subst hi2
     rw [List.take_length] at heq
     rw [hlk, List.take_length] at heq
     exact heq
    simp [this]
theorem toStringS_a (A : AH) (hro : ro ≤ A.size) (s : Sl) (l : List ByteArray) (F : List Nat) (hs : SlR A s l F) (hl : l.length < 4294967296) :
 ACalls Tryd.prog ro X 60 [s.v] A (fun r A' => ∃ t G, r = .ret t.v ∧ SlR A' t l G ∧ Fresh A G A' ∧ Ext A A') := by
 refine ACalls.enterQ (rs := [.tmp 2]) Tryd.func60 rfl (by kernel_rfl) rfl ?_
 simp (disch := first | omega | fail) only [amR Tryd.prog ro X, amS, seval, reduceCtorEq, ty3, ty9, ty33, hs.len]
 refine Wp.loopC (fun n e A' => Ext A A' ∧ A.size < A'.size ∧ e 0 = s.v ∧ e 3 = (Sl.mk false A.size 0 l.length l.length).v ∧ ∃ i : Nat, i ≤ l.length ∧ n = l.length - i ∧ e 4 = .int .i64 i ∧ Part A' A.size l.length (l.take i) []) (l.length - 0) ?_ ?_
 ·simp (disch := first | omega | fail) only [amV, amH, amQ, amL, amN Tryd.prog, amS, seval, reduceCtorEq, ty3, ty9, ty33]
  refine ⟨Ext.new A _, by omega, 0, by omega, rfl, rfl, ?_⟩
  rw [List.take_zero]
  exact Part.start (by simp [AH.zN]) (AH.gNs _ _) (by simp [Dat.w])
 ·rintro n e A' ⟨hE, hz, h0, h3, i, hi, rfl, h4, hp⟩
  have hs' := hs.ext hE
  simp (disch := first | omega | fail) only [amR Tryd.prog ro X, amS, seval, reduceCtorEq, ty3, ty9, ty33, h0, h3, h4, hs.len]
  refine CondB.split (fun h => ?_) (fun h => ?_)
  ·have hil : i < l.length := by simp at h; omega
   obtain ⟨n1, b1, m1, i1, c1, q1⟩ := hs'.str hil
   rw [aCell_eq] at c1
   obtain ⟨hlt, ⟨c, g1, g2, g3⟩, hle⟩ := id hp
   have hc : i < c.length := by rw [g2]; simpa [Dat.w] using hil
   simp (disch := first | omega | fail) only [amR Tryd.prog ro X, amS, seval, reduceCtorEq, ty3, ty9, ty33, h0, h3, h4, n1, c1, g1]
   refine ⟨l.length - (i + 1), by omega, hE.put (Nat.le_refl _) _, hz, i + 1, by omega, rfl, by simp, ?_⟩
   have := hp.store (by simp) (x := l[i]) (cs := [.string l[i]]) (G := []) ⟨rfl, rfl, q1⟩ (by simp) (by simp; omega) g1
   rw [List.take_succ_eq_append_getElem hil]
   simpa [Dat.w, Nat.min_eq_left hi, setCells] using this
  ·have hil : i = l.length := by simp at h; omega
   subst hil
   simp (disch := first | omega | fail) only [amR Tryd.prog ro X, amS, seval, reduceCtorEq, ty3, ty9, ty33, h3]
   rw [List.take_length] at hp
   exact ⟨_, _, rfl, hp.done rfl (by unfold BIG; omega), Fresh.cons (Nat.le_refl _) hz (Fresh.nil A' A') (Nat.le_refl _) hE.size, hE⟩
theorem szStringS_a (A : AH) (s : Sl) (l : List ByteArray) (F : List Nat) (hs : SlR A s l F) (hl : l.length < 281474976710656) (left : Int) (hz : 0 ≤ left ∧ left ≤ 2097152) :
 ACalls Tryd.prog ro X 56 [s.v, .int .i64 left] A (fun r A' => r = .ret (.int .i64 (szR left (szL ByteArray.size l))) ∧ A' = A) := by
 refine ACalls.enterQ (rs := [.tmp 4]) Tryd.func56 rfl (by kernel_rfl) rfl ?_
 simp (disch := first | omega | fail) only [amR Tryd.prog ro X, amS, seval, reduceCtorEq, ty3, ty9, ty33, hs.len]
 refine CondB.split (fun h => ?_) (fun h => ?_)
 ·simp (disch := first | omega | fail) only [amR Tryd.prog ro X, amS, seval, reduceCtorEq, ty3, ty9, ty33]
  have : szR left (szL ByteArray.size l) = -1 := by
   have : left - l.length < 0 := by simpa using h
   have := szL_take_le ByteArray.size l 0
   unfold szR
   rw [if_pos (by omega)]
  simp [this]
 ·simp (disch := first | omega | fail) only [amR Tryd.prog ro X, amS, seval, reduceCtorEq, ty3, ty9, ty33]
  refine Wp.loopC (fun n e A' => A' = A ∧ e 0 = s.v ∧ ∃ i : Nat, i ≤ l.length ∧ n = l.length - i ∧ e 5 = .int .i64 i ∧ e 1 = .int .i64 (left - szL ByteArray.size (l.take i) + i - l.length) ∧ 0 ≤ left - szL ByteArray.size (l.take i) + i - l.length) (l.length - 0) ?_ ?_
  ·simp (disch := first | omega | fail) only [amV, amH, amQ, amL, amN Tryd.prog, amS, seval, reduceCtorEq, ty3, ty9, ty33]
   refine ⟨0, by omega, rfl, rfl, ?_⟩
   have : 0 ≤ left - l.length := by simpa using h
   simp only [List.take_zero, szL_nil]
   exact ⟨by congr 1 <;> omega, by omega⟩
  ·rintro n e A' ⟨rfl, h0, i, hi, rfl, h5, h1, hle⟩
   simp (disch := first | omega | fail) only [amR Tryd.prog ro X, amS, seval, reduceCtorEq, ty3, ty9, ty33, h0, h5, hs.len]
   refine CondB.split (fun h => ?_) (fun h => ?_)
   ·have hil : i < l.length := by simp at h; omega
    obtain ⟨n1, b1, m1, i1, c1, q1⟩ := hs.str hil
    rw [aCell_eq] at c1
    have hq : l[i].size < 4611686018427387904 := q1
    have hst := szL_take_succ ByteArray.size l i hil
    simp (disch := first | omega | fail) only [amR Tryd.prog ro X, amS, seval, reduceCtorEq, ty3, ty9, ty33, h0, h1, h5, n1, c1]
    refine CondB.split (fun h => ?_) (fun h => ?_)
    ·simp (disch := first | omega | fail) only [amR Tryd.prog ro X, amS, seval, reduceCtorEq, ty3, ty9, ty33]
     have hneg : left - szL ByteArray.size (l.take i) + i - l.length - l[i].size < 0 := by simpa using h
     have hge := szL_take_le ByteArray.size l (i + 1)
     have : szR left (szL ByteArray.size l) = -1 := by
      unfold szR
      rw [if_pos (by omega)]
     simp [this]
    ·simp (disch := first | omega | fail) only [amR Tryd.prog ro X, amS, seval, reduceCtorEq, ty3, ty9, ty33, h0, h5]
     have hnn : ¬ (left - szL ByteArray.size (l.take i) + i - l.length - l[i].size < 0) := by simpa using h
     exact ⟨l.length - (i + 1), by omega, i + 1, by omega, rfl, rfl, by congr 1 <;> omega, by omega⟩
   ·have hil : i = l.length := by simp at h; omega
    subst hil
    rw [List.take_length] at h1 hle
    simp (disch := first | omega | fail) only [amR Tryd.prog ro X, amS, seval, reduceCtorEq, ty3, ty9, ty33, h1]
    have : szR left (szL ByteArray.size l) = left - szL ByteArray.size l := by
     unfold szR
     rw [if_neg (by omega)]
    rw [this]
    congr 2
    omega
end Go.Proofs.YtjlbcofopapajaaDoor.Amu.Strs
