/- The abstract machine in use: rows that are marked element by element; what stays beside a change. -/
import Derived.Test.YtmelgjblkmbhjaaGreatDoorAmO
namespace Go.AM
open Go
set_option linter.unusedVariables false
set_option linter.unusedSimpArgs false
theorem SlR.extx {α : Type} [Dat α] {A A' : AH} {s : Sl} {l : List α} {G F : List Nat} (h : SlR A s l G) (hX : ExtX F A A') (hd : ∀ b, b ∈ G → b ∉ F) : SlR A' s l G :=
  h.frame fun b hb => ⟨hX.get b (h.bound b hb) (hd b hb), Nat.lt_of_lt_of_le (h.bound b hb) hX.size⟩
theorem ExtX.new {F : List Nat} {A A' : AH} (h : ExtX F A A') (o : AObj) : ExtX F A (A'.new o) := h.trans ((Ext.new A' o).x F)
theorem row_get {c ci : List Value} {o w : Nat} (h : (c.drop o).take w = ci) (j : Nat) (hj : j < w) : c[o + j]? = ci[j]? := by
  rw [← h, List.getElem?_take, if_pos hj, List.getElem?_drop]
theorem row_of {c vs : List Value} {o w : Nat} (hv : vs.length = w) (hl : o + w ≤ c.length) (h : ∀ j, j < w → c[o + j]? = vs[j]?) : (c.drop o).take w = vs := by
  refine List.ext_getElem? fun j => ?_
  rw [List.getElem?_take, List.getElem?_drop]
  by_cases hj : j < w
  · rw [if_pos hj, h j hj]
  · rw [if_neg hj, List.getElem?_eq_none (by omega)]
theorem SlR.step {α : Type} [Dat α] {A : AH} {s : Sl} {l m : List α} {F : List Nat} {i : Nat} (hs : SlR A s (m ++ l.drop i) F) (hN : F.Nodup) (hm : m.length = i) (hi : i < l.length) :
    ∃ c Fi ci, s.nl = false ∧ s.b < A.size ∧ i < s.len ∧ s.b ∈ F ∧ A.get s.b = .cells c (Dat.w α) ∧ s.o + i * Dat.w α + Dat.w α ≤ c.length ∧ (c.drop (s.o + i * Dat.w α)).take (Dat.w α) = ci ∧ Dat.rep A l[i] ci Fi ∧ Fi.Nodup ∧ s.b ∉ Fi ∧ (∀ b, b ∈ Fi → b ∈ F) ∧
    ∀ (H : AH) (x' : α) (c' : List Value), ExtX (s.b :: Fi) A H → H.get s.b = .cells c' (Dat.w α) → c'.length = c.length → (∀ j, j < s.o + i * Dat.w α ∨ s.o + i * Dat.w α + Dat.w α ≤ j → c'[j]? = c[j]?) →
      Dat.rep H x' ((c'.drop (s.o + i * Dat.w α)).take (Dat.w α)) Fi → SlR H s (m ++ [x'] ++ l.drop (i + 1)) F := by
  have hbd := hs.bound
  obtain ⟨c, G1, Fi, G2, ci, n1, b1, i1, g1, hc, rfl, hrow, hr, hup⟩ := hs.focus (i := i) (by simp; omega)
  have hel : (m ++ l.drop i)[i]'(by simp; omega) = l[i] := by
    rw [List.getElem_append_right (by omega)]
    simp [hm]
  rw [hel] at hr
  obtain ⟨q1, q2, q3⟩ := nodup_focus hN
  refine ⟨c, Fi, ci, n1, b1, i1, by simp, g1, hc, hrow, hr, ?_, q2, fun b hb => by simp [hb], fun H x' c' hX k1 k2 k3 k4 => ?_⟩
  · rw [List.nodup_cons, List.nodup_append, List.nodup_append] at hN
    exact hN.2.2.1.1
  · have := hup H x' Fi c' k1 (Nat.lt_of_lt_of_le b1 hX.size) k2 k3 (fun b hb => by
      have hb2 := hbd b (by rcases List.mem_append.1 hb with hb | hb <;> simp [hb])
      refine ⟨hX.get b hb2 fun hm => ?_, Nat.lt_of_lt_of_le hb2 hX.size⟩
      rcases List.mem_cons.1 hm with rfl | hm
      · exact q1 hb
      · exact q3 b hm hb) k4
    rw [set_append_drop _ _ _ _ hm hi] at this
    exact this
theorem mkL_str (k : Int) (l : List ByteArray) : mkL k l = mkStrs k l.length := by
  refine List.ext_getElem (by rw [mkL_length, mkStrs_length]) fun i h1 h2 => ?_
  rw [mkL_get, mkStrs_get]
  have : nmL (l.take i) = i := by
    have hl : i ≤ l.length := by rw [mkL_length] at h1; omega
    have : ∀ (k : List ByteArray), nmL k = k.length := by
      intro k
      induction k with
      | nil => rfl
      | cons x k ih => have e : nmL (x :: k) = 1 + nmL k := by simp [nmL]; rfl
                       rw [e, ih, List.length_cons, Nat.add_comm]
    rw [this, List.length_take, Nat.min_eq_left hl]
  rw [this]
  rfl
theorem nmL_str (l : List ByteArray) : nmL l = l.length := by
  induction l with
  | nil => rfl
  | cons x k ih => have e : nmL (x :: k) = 1 + nmL k := by simp [nmL]; rfl
                   rw [e, ih, List.length_cons, Nat.add_comm]
theorem big_lt {n : Nat} (h : n < BIG) : n < 4611686018427387904 := h
theorem fill_flat (n w : Nat) (z : List Value) (h : z.length = w) : (List.replicate n z).flatten.length = n * w := by
  simp [List.length_flatten, h]
theorem szR_neg {left t : Int} (h : left - t < 0) : szR left t = -1 := if_pos h
theorem szR_pos {left t : Int} (h : ¬ left - t < 0) : szR left t = left - t := if_neg h
/-- The blocks from a number on are as they were. -/
structure Low (n : Nat) (A A' : AH) : Prop where
  size : A.size ≤ A'.size
  get : ∀ b, n ≤ b → b < A.size → A'.get b = A.get b
theorem Low.refl (n : Nat) (A : AH) : Low n A A := ⟨Nat.le_refl _, fun _ _ _ => rfl⟩
theorem Low.trans {n : Nat} {A A' A'' : AH} (h : Low n A A') (k : Low n A' A'') : Low n A A'' :=
  ⟨Nat.le_trans h.size k.size, fun b hn hb => (k.get b hn (Nat.lt_of_lt_of_le hb h.size)).trans (h.get b hn hb)⟩
theorem Ext.low {A A' : AH} (h : Ext A A') (n : Nat) : Low n A A' := ⟨h.size, fun b _ hb => h.get b hb⟩
theorem Low.new {n : Nat} {A A' : AH} (h : Low n A A') (o : AObj) : Low n A (A'.new o) := h.trans ((Ext.new A' o).low n)
theorem Low.put {n : Nat} {A A' : AH} (h : Low n A A') {b : Nat} (hb : b < n) (o : AObj) : Low n A (A'.put b o) :=
  ⟨h.size, fun x hn hx => (AH.get_put_other (by omega)).trans (h.get x hn hx)⟩
theorem SlR.low {α : Type} [Dat α] {n : Nat} {A A' : AH} {s : Sl} {l : List α} {G : List Nat} (h : SlR A s l G) (hf : ∀ b, b ∈ G → n ≤ b) (hL : Low n A A') : SlR A' s l G :=
  h.frame fun b hb => ⟨hL.get b (hf b hb) (h.bound b hb), Nat.lt_of_lt_of_le (h.bound b hb) hL.size⟩
theorem Dat.low {α : Type} [Dat α] {n : Nat} {A A' : AH} {x : α} {cs : List Value} {G : List Nat} (h : Dat.rep A x cs G) (hf : ∀ b, b ∈ G → n ≤ b) (hL : Low n A A') : Dat.rep A' x cs G :=
  Dat.frame h fun b hb => ⟨hL.get b (hf b hb) (Dat.bound h b hb), Nat.lt_of_lt_of_le (Dat.bound h b hb) hL.size⟩
theorem Dat.ext {α : Type} [Dat α] {A A' : AH} {x : α} {cs : List Value} {G : List Nat} (h : Dat.rep A x cs G) (hE : Ext A A') : Dat.rep A' x cs G :=
  Dat.frame h fun b hb => ⟨hE.get b (Dat.bound h b hb), Nat.lt_of_lt_of_le (Dat.bound h b hb) hE.size⟩
theorem nmL_length {α : Type} [Mk α] (l : List α) (h : ∀ x : α, 1 ≤ Mk.nm x) : l.length ≤ nmL l := by
  induction l with
  | nil => simp
  | cons x l ih => have := h x
                   have e : nmL (x :: l) = Mk.nm x + nmL l := by simp [nmL]
                   rw [e, List.length_cons]; omega
theorem set_hit {l : List Value} {i : Nat} {a : Value} (h : i < l.length) : (l.set i a)[i]? = some a := by simp [h]
theorem set_miss {l : List Value} {i j : Nat} {a : Value} (h : i ≠ j) : (l.set i a)[j]? = l[j]? := List.getElem?_set_ne h
theorem rowK_inv {o n : Nat} {x : AObj} {cs : List Value} (h : rowK o n x = some cs) : ∃ c e, x = .cells c e ∧ o + n ≤ c.length ∧ (c.drop o).take n = cs := by
  cases x with
  | dead => cases h
  | map es => cases h
  | cells c e =>
    unfold rowK at h
    simp only at h
    split at h
    · cases h; exact ⟨c, e, rfl, ‹_›, rfl⟩
    · cases h
instance : DecidableEq TIns := inferInstanceAs (DecidableEq (Int × ByteArray × Int))
instance : DecidableEq TGlance := inferInstanceAs (DecidableEq (ByteArray × Bool × ByteArray))
instance : DecidableEq TTarget := inferInstanceAs (DecidableEq (ByteArray × List TIns))
instance : DecidableEq TRecord := @instDecidableEqProd _ _ (inferInstanceAs (DecidableEq (List TIns))) (@instDecidableEqProd _ _ (inferInstanceAs (DecidableEq (List TGlance))) inferInstance)
instance : DecidableEq TStore := @instDecidableEqProd _ _ inferInstance (@instDecidableEqProd _ _ inferInstance (inferInstanceAs (DecidableEq (List TRecord))))
instance : DecidableEq TKept := @instDecidableEqProd _ _ inferInstance (@instDecidableEqProd _ _ (inferInstanceAs (DecidableEq TStore)) inferInstance)
instance : DecidableEq TBuilt := @instDecidableEqProd _ _ inferInstance (@instDecidableEqProd _ _ inferInstance (@instDecidableEqProd _ _ inferInstance (@instDecidableEqProd _ _ (inferInstanceAs (DecidableEq TStore)) inferInstance)))
end Go.AM
