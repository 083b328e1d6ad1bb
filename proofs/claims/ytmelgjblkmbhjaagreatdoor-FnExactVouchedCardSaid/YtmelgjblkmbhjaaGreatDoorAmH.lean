/- The abstract machine in use: rows that are built, rows that are written anew, blocks that are new. -/
import Derived.Test.YtmelgjblkmbhjaaGreatDoorAmG
import Derived.Test.YtmelgjblkmbhjaaGreatDoorAmSA
namespace Go.AM
open Go
/-- All that was there is as it was, but for some blocks. -/
structure ExtX (F : List Nat) (A A' : AH) : Prop where
  size : A.size ≤ A'.size
  get : ∀ b, b < A.size → b ∉ F → A'.get b = A.get b
theorem Ext.x {A A' : AH} (h : Ext A A') (F : List Nat) : ExtX F A A' := ⟨h.size, fun b hb _ => h.get b hb⟩
theorem ExtX.ext {A A' : AH} (h : ExtX [] A A') : Ext A A' := ⟨h.size, fun b hb => h.get b hb (by simp)⟩
theorem ExtX.refl (F : List Nat) (A : AH) : ExtX F A A := ⟨Nat.le_refl _, fun _ _ _ => rfl⟩
theorem ExtX.trans {F : List Nat} {A A' A'' : AH} (h : ExtX F A A') (k : ExtX F A' A'') : ExtX F A A'' :=
  ⟨Nat.le_trans h.size k.size, fun b hb hn => (k.get b (Nat.lt_of_lt_of_le hb h.size) hn).trans (h.get b hb hn)⟩
theorem ExtX.mono {F G : List Nat} {A A' : AH} (h : ExtX F A A') (hs : ∀ b, b ∈ F → b ∈ G) : ExtX G A A' := ⟨h.size, fun b hb hn => h.get b hb fun hf => hn (hs b hf)⟩
theorem ExtX.put {F : List Nat} {A A' : AH} (h : ExtX F A A') {b : Nat} (hb : b ∈ F) (o : AObj) : ExtX F A (A'.put b o) :=
  ⟨h.size, fun b' hb' hn => (AH.get_put_other fun e => hn (by rw [e]; exact hb)).trans (h.get b' hb' hn)⟩
theorem put_frame {A : AH} {b : Nat} {o : AObj} {G : List Nat} (hn : b ∉ G) (hlt : ∀ x, x ∈ G → x < A.size) : ∀ x, x ∈ G → (A.put b o).get x = A.get x ∧ x < (A.put b o).size :=
  fun x hx => ⟨AH.get_put_other fun e => hn (by rw [← e]; exact hx), hlt x hx⟩
theorem nodup_focus {b : Nat} {G1 Fi G2 : List Nat} (h : (b :: (G1 ++ (Fi ++ G2))).Nodup) : b ∉ G1 ++ G2 ∧ b ∉ Fi ∧ (∀ x, x ∈ Fi → x ∉ G1 ++ G2) := by
  rw [List.nodup_cons] at h
  obtain ⟨h1, h2⟩ := h
  simp only [List.mem_append, not_or] at h1 ⊢
  refine ⟨⟨h1.1, h1.2.2⟩, h1.2.1, fun x hx => ?_⟩
  rw [List.nodup_append] at h2
  obtain ⟨_, h3, h4⟩ := h2
  rw [List.nodup_append] at h3
  exact ⟨fun hm => h4 x hm x (List.mem_append_left _ hx) rfl, fun hm => h3.2.2 x hx x hm rfl⟩
/-- Blocks that are new, each once. -/
structure Fresh (A : AH) (F : List Nat) (A' : AH) : Prop where
  nodup : F.Nodup
  lo : ∀ b, b ∈ F → A.size ≤ b
  hi : ∀ b, b ∈ F → b < A'.size
theorem Fresh.nil (A A' : AH) : Fresh A [] A' := ⟨.nil, by simp, by simp⟩
theorem Fresh.append {A A1 A2 : AH} {F G : List Nat} (h : Fresh A F A1) (k : Fresh A1 G A2) (h1 : A.size ≤ A1.size) (h2 : A1.size ≤ A2.size) : Fresh A (F ++ G) A2 := by
  refine ⟨List.nodup_append.2 ⟨h.nodup, k.nodup, fun a ha b hb e => ?_⟩, fun b hb => ?_, fun b hb => ?_⟩
  · have := h.hi a ha; have := k.lo b hb; omega
  · rcases List.mem_append.1 hb with hb | hb
    · exact h.lo b hb
    · have := k.lo b hb; omega
  · rcases List.mem_append.1 hb with hb | hb
    · have := h.hi b hb; omega
    · exact k.hi b hb
theorem Fresh.cons {A A1 A2 : AH} {b : Nat} {G : List Nat} (h : A.size ≤ b) (hb : b < A1.size) (k : Fresh A1 G A2) (h2 : A1.size ≤ A2.size) (h1 : A.size ≤ A1.size) : Fresh A (b :: G) A2 := by
  have : Fresh A [b] A1 := ⟨by simp, fun x hx => by simp at hx; omega, fun x hx => by simp at hx; omega⟩
  exact this.append k h1 h2
theorem Fresh.mono {A A0 A1 A2 : AH} {F : List Nat} (h : Fresh A F A1) (h0 : A0.size ≤ A.size) (h2 : A1.size ≤ A2.size) : Fresh A0 F A2 :=
  ⟨h.nodup, fun b hb => Nat.le_trans h0 (h.lo b hb), fun b hb => Nat.lt_of_lt_of_le (h.hi b hb) h2⟩
theorem Fresh.ne {A A' : AH} {F : List Nat} (h : Fresh A F A') {b : Nat} (hb : b < A.size) : b ∉ F := fun hm => by have := h.lo b hm; omega
/-! ### Rows -/
theorem setCells_take (c vs : List Value) (o : Nat) (h : o + vs.length ≤ c.length) : (setCells c o vs).take (o + vs.length) = c.take o ++ vs := by
  refine List.ext_getElem? fun i => ?_
  rw [List.getElem?_take, List.getElem?_append, List.length_take, Nat.min_eq_left (by omega), setCells_get vs c o i h]
  by_cases h1 : i < o
  · rw [if_pos (by omega), if_neg (by omega), if_pos h1, List.getElem?_take, if_pos h1]
  · rw [if_neg h1]
    by_cases h2 : i < o + vs.length
    · rw [if_pos h2, if_pos (by omega)]
    · rw [if_neg h2, List.getElem?_eq_none (by omega)]
theorem setCells_self (c vs : List Value) (o : Nat) (h : o + vs.length ≤ c.length) : ((setCells c o vs).drop o).take vs.length = vs := by
  refine List.ext_getElem? fun i => ?_
  rw [List.getElem?_take, List.getElem?_drop, setCells_get vs c o (o + i) h]
  by_cases h1 : i < vs.length
  · rw [if_pos h1, if_pos (by omega)]; congr 1; omega
  · rw [if_neg h1, List.getElem?_eq_none (by omega)]
section
variable {α : Type} [Dat α]
/-- The first elements of a row that is being filled. -/
structure Part (A : AH) (b n : Nat) (l : List α) (F : List Nat) : Prop where
  lt : b < A.size
  row : ∃ c, A.get b = .cells c (Dat.w α) ∧ c.length = n * Dat.w α ∧ Reps A l (c.take (l.length * Dat.w α)) F
  le : l.length ≤ n
theorem Part.frame {A A' : AH} {b n : Nat} {l : List α} {F : List Nat} (h : Part A b n l F) (h1 : A'.get b = A.get b) (h2 : A.size ≤ A'.size) (hF : ∀ b, b ∈ F → A'.get b = A.get b) : Part A' b n l F := by
  obtain ⟨hl, ⟨c, g1, g2, g3⟩, hle⟩ := h
  exact ⟨by omega, ⟨c, h1.trans g1, g2, g3.frame fun x hx => ⟨hF x hx, by have := g3.bound x hx; omega⟩⟩, hle⟩
theorem Part.ext {A A' : AH} {b n : Nat} {l : List α} {F : List Nat} (h : Part A b n l F) (hE : Ext A A') : Part A' b n l F := by
  obtain ⟨c, _, _, h3⟩ := h.row
  exact h.frame (hE.get b h.lt) hE.size fun x hx => hE.get x (h3.bound x hx)
theorem Part.start {A : AH} {b n : Nat} {c : List Value} (hb : b < A.size) (hg : A.get b = .cells c (Dat.w α)) (hc : c.length = n * Dat.w α) : Part A b n ([] : List α) [] :=
  ⟨hb, ⟨c, hg, hc, by simpa using Reps.nil⟩, Nat.zero_le _⟩
/-- One element more. -/
theorem Part.store {A : AH} {b n : Nat} {l : List α} {F : List Nat} (h : Part A b n l F) (hF : b ∉ F) {x : α} {cs : List Value} {G : List Nat} (hx : Dat.rep A x cs G) (hG : b ∉ G) (hn : l.length < n)
    {c : List Value} {w : Nat} (hg : A.get b = .cells c w) : Part (A.put b (.cells (setCells c (l.length * Dat.w α) cs) w)) b n (l ++ [x]) (F ++ G) := by
  obtain ⟨hl, ⟨c', g1, g2, g3⟩, hle⟩ := h
  rw [hg] at g1
  cases g1
  have hcs := Dat.len hx
  have hw : (l.length + 1) * Dat.w α ≤ n * Dat.w α := Nat.mul_le_mul_right _ hn
  rw [Nat.succ_mul] at hw
  have fr : ∀ (H : List Nat), b ∉ H → (∀ y, y ∈ H → y < A.size) → ∀ y, y ∈ H → (A.put b (.cells (setCells c (l.length * Dat.w α) cs) (Dat.w α))).get y = A.get y ∧ y < (A.put b (.cells (setCells c (l.length * Dat.w α) cs) (Dat.w α))).size :=
    fun H hH hlt y hy => ⟨AH.get_put_other fun e => hH (e ▸ hy), hlt y hy⟩
  refine ⟨hl, ⟨_, AH.get_put_self _ _ _, by rw [setCells_length]; exact g2, ?_⟩, by simp; omega⟩
  have ht := setCells_take c cs (l.length * Dat.w α) (by omega)
  rw [hcs, ← Nat.succ_mul] at ht
  rw [List.length_append, List.length_singleton, ht]
  exact (g3.frame (fr F hF g3.bound)).append (Reps.one (Dat.frame hx (fr G hG (Dat.bound hx))))
theorem Part.done {A : AH} {b n : Nat} {l : List α} {F : List Nat} (h : Part A b n l F) (hn : l.length = n) (hB : n < BIG) : SlR A ⟨false, b, 0, n, n⟩ l (b :: F) := by
  obtain ⟨hl, ⟨c, g1, g2, g3⟩, hle⟩ := h
  exact .inB ⟨rfl, hl, hn.symm, .inr ⟨Nat.le_refl _, hB⟩, c, _, F, g1, by simp [g2], by rw [List.drop_zero]; show c.take (n * Dat.w α) = c.take (l.length * Dat.w α); rw [hn], g3, rfl⟩
/-- One element of a row, and the row with another in its place. -/
theorem Reps.focus {A : AH} {l : List α} {cs : List Value} {F : List Nat} (h : Reps A l cs F) : ∀ (i : Nat) (hi : i < l.length), ∃ G1 Fi G2 c1 ci c2, F = G1 ++ (Fi ++ G2) ∧ cs = c1 ++ (ci ++ c2) ∧ c1.length = i * Dat.w α ∧ Dat.rep A l[i] ci Fi ∧
    ∀ (A' : AH) (x' : α) (ci' : List Value) (Fi' : List Nat), (∀ b, b ∈ G1 ++ G2 → A'.get b = A.get b ∧ b < A'.size) → Dat.rep A' x' ci' Fi' → Reps A' (l.set i x') (c1 ++ (ci' ++ c2)) (G1 ++ (Fi' ++ G2)) := by
  induction h with
  | nil => intro i hi; simp at hi
  | cons h k ih =>
    rename_i x l c cs F G
    intro i hi
    cases i with
    | zero =>
      refine ⟨[], F, G, [], c, cs, rfl, rfl, by simp, h, fun A' x' ci' Fi' hf hr => ?_⟩
      show Reps A' (x' :: l) (ci' ++ cs) (Fi' ++ G)
      exact .cons hr (k.frame fun b hb => hf b hb)
    | succ i =>
      obtain ⟨G1, Fi, G2, c1, ci, c2, e1, e2, e3, e4, e5⟩ := ih i (by simpa using hi)
      refine ⟨F ++ G1, Fi, G2, c ++ c1, ci, c2, by rw [e1, List.append_assoc], by rw [e2, List.append_assoc], by rw [List.length_append, e3, Dat.len h, Nat.succ_mul, Nat.add_comm], by simpa using e4, fun A' x' ci' Fi' hf hr => ?_⟩
      rw [List.append_assoc, List.append_assoc, List.set_cons_succ]
      exact .cons (Dat.frame h fun b hb => hf b (by simp [hb])) (e5 A' x' ci' Fi' (fun b hb => hf b (by rcases List.mem_append.1 hb with hb | hb <;> simp [hb])) hr)
theorem row_split {c c1 ci c2 : List Value} {o n : Nat} (h : (c.drop o).take n = c1 ++ (ci ++ c2)) (hl : o + n ≤ c.length) : (c.drop (o + c1.length)).take ci.length = ci ∧ c1.length + ci.length ≤ n := by
  have hlen : c1.length + (ci.length + c2.length) = n := by
    have := congrArg List.length h
    simp only [List.length_take, List.length_drop, List.length_append] at this
    omega
  refine ⟨?_, by omega⟩
  have h2 := congrArg (fun x => (x.drop c1.length).take ci.length) h
  simp only [List.drop_left, List.take_left] at h2
  rw [List.drop_take, List.take_take, List.drop_drop, Nat.min_eq_left (by omega)] at h2
  exact h2
theorem SlR.focus {A : AH} {s : Sl} {l : List α} {F : List Nat} (h : SlR A s l F) {i : Nat} (hi : i < l.length) :
    ∃ c G1 Fi G2 ci, s.nl = false ∧ s.b < A.size ∧ i < s.len ∧ A.get s.b = .cells c (Dat.w α) ∧ s.o + i * Dat.w α + Dat.w α ≤ c.length ∧ F = s.b :: (G1 ++ (Fi ++ G2)) ∧ (c.drop (s.o + i * Dat.w α)).take (Dat.w α) = ci ∧ Dat.rep A l[i] ci Fi ∧
    ∀ (A' : AH) (x' : α) (Fi' : List Nat) (c' : List Value), A'.get s.b = .cells c' (Dat.w α) → s.b < A'.size → c'.length = c.length → (∀ j, j < s.o + i * Dat.w α ∨ s.o + i * Dat.w α + Dat.w α ≤ j → c'[j]? = c[j]?) →
      (∀ b, b ∈ G1 ++ G2 → A'.get b = A.get b ∧ b < A'.size) → Dat.rep A' x' ((c'.drop (s.o + i * Dat.w α)).take (Dat.w α)) Fi' → SlR A' s (l.set i x') (s.b :: (G1 ++ (Fi' ++ G2))) := by
  cases h with
  | nil _ hl _ => subst hl; simp at hi
  | empty _ _ _ hl _ => subst hl; simp at hi
  | inB h =>
    obtain ⟨h1, h2, h3, h4, c, cs, G, h5, h6, h7, h8, rfl⟩ := h
    obtain ⟨G1, Fi, G2, c1, ci, c2, rfl, e2, e3, e4, e5⟩ := h8.focus i hi
    subst h7
    obtain ⟨s1, s2⟩ := row_split e2 h6
    have hci := Dat.len e4
    rw [e3, hci] at s1
    rw [e3] at s2
    refine ⟨c, G1, Fi, G2, ci, h1, h2, by rw [h3]; exact hi, h5, by omega, rfl, s1, e4, fun A' x' Fi' c' k1 k2 k3 k4 k5 k6 => ?_⟩
    refine .inB ⟨h1, k2, by rw [h3]; simp, h4, c', c1 ++ ((c'.drop (s.o + i * Dat.w α)).take (Dat.w α) ++ c2), _, k1, by omega, ?_, e5 A' x' _ Fi' k5 k6, rfl⟩
    refine List.ext_getElem? fun j => ?_
    have hl' := congrArg List.length e2
    simp only [List.length_take, List.length_drop, List.length_append] at hl'
    have hj : ∀ j : Nat, ((c.drop s.o).take (s.len * Dat.w α))[j]? = (c1 ++ (ci ++ c2))[j]? := fun j => by rw [e2]
    have hj2 := hj j
    rw [List.getElem?_take, List.getElem?_drop] at hj2 ⊢
    rw [List.getElem?_append, List.getElem?_append] at hj2 ⊢
    rw [List.length_take, List.length_drop, k3, Nat.min_eq_left (by omega)]
    rw [hci] at hj2
    by_cases a1 : j < c1.length
    · rw [if_pos a1] at hj2 ⊢
      rw [k4 _ (.inl (by omega))]; exact hj2
    · rw [if_neg a1] at hj2 ⊢
      by_cases a2 : j - c1.length < Dat.w α
      · rw [if_pos a2, List.getElem?_take, if_pos a2, List.getElem?_drop]
        rw [if_pos (by omega)]
        congr 1; omega
      · rw [if_neg a2] at hj2 ⊢
        rw [k4 _ (.inr (by omega))]; exact hj2
end
theorem set_append_drop {α : Type} (m l : List α) (i : Nat) (x : α) (hm : m.length = i) (hi : i < l.length) : (m ++ l.drop i).set i x = m ++ [x] ++ l.drop (i + 1) := by
  rw [List.set_append_right _ _ (by omega), hm, Nat.sub_self, List.drop_eq_getElem_cons hi, List.set_cons_zero]
  simp
end Go.AM
