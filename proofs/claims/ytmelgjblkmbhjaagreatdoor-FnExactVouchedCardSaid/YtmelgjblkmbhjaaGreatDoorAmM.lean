/- The abstract machine in use: tests that are parted under their own hypothesis; lists that a function builds by append; texts as lists of bytes. -/
import Derived.Test.YtmelgjblkmbhjaaGreatDoorAmI
namespace Go.AM
open Go
set_option linter.unusedVariables false
set_option linter.unusedSimpArgs false
theorem CondB_part (f g : Env → AH → Prop) (e : Env) (A : AH) (b : Bool) : CondB f g e A b = ((b = true → f e A) ∧ (b = false → g e A)) := by cases b <;> simp [CondB]
theorem RunW_part (rest : Rest) (o : Oper) (i : Nat) (e : Env) (A : AH) (N : Op → Prop) (b : Bool) : RunW rest o i e A N b = ((b = true → N o.op) ∧ (b = false → rest (i + 1) (e.put o.dst undef) A)) := by cases b <;> simp [RunW]
theorem guardB_t (b : Bool) : guardB true (.bool b) = b := by cases b <;> rfl
theorem guardB_f (b : Bool) : guardB false (.bool b) = !b := by cases b <;> rfl
/-- Tests, parted. -/
theorem amP :
    (∀ f g e A b, CondB f g e A b = ((b = true → f e A) ∧ (b = false → g e A))) ∧ (∀ rest o i e A N b, RunW rest o i e A N b = ((b = true → N o.op) ∧ (b = false → rest (i + 1) (e.put o.dst undef) A))) ∧
    (∀ b, guardB true (.bool b) = b) ∧ (∀ b, guardB false (.bool b) = !b) ∧ (∀ b : Bool, ((!b) = true) = (b = false)) ∧ (∀ b : Bool, ((!b) = false) = (b = true)) ∧
    (∀ (p : Prop) [Decidable p], (decide p = true) = p) ∧ (∀ (p : Prop) [Decidable p], (decide p = false) = ¬ p) ∧
    (∀ a b : Int, ((a == b) = true) = (a = b)) ∧ (∀ a b : Int, ((a == b) = false) = ¬ (a = b)) ∧ (∀ a b : Int, ((a != b) = true) = ¬ (a = b)) ∧ (∀ a b : Int, ((a != b) = false) = (a = b)) ∧
    (∀ a b : Bool, ((a == b) = true) = (a = b)) ∧ (∀ a b : Bool, ((a == b) = false) = ¬ (a = b)) ∧ (∀ p : Prop, (¬ ¬ p) = p) ∧ (∀ a b : Int, (¬ a < b) = (b ≤ a)) ∧ (∀ a b : Int, (¬ a ≤ b) = (b < a)) :=
  ⟨CondB_part, RunW_part, guardB_t, guardB_f, fun b => by cases b <;> simp, fun b => by cases b <;> simp, fun p _ => by simp, fun p _ => by simp, fun a b => by simp, fun a b => by simp, fun a b => by simp, fun a b => by simp,
    fun a b => by simp, fun a b => by simp, fun p => by simp, fun a b => by simp, fun a b => by simp⟩
/-! ### What grows -/
/-- All is as it was, but for one block that is no older than a number. -/
structure Grow (lo b : Nat) (A A' : AH) : Prop where
  size : A.size ≤ A'.size
  get : ∀ x, x < A.size → x < lo ∨ x ≠ b → A'.get x = A.get x
theorem Grow.ext {A0 A A' : AH} {lo b : Nat} (h : Grow lo b A A') (hE : Ext A0 A) (hl : A0.size ≤ lo) : Ext A0 A' :=
  ⟨Nat.le_trans hE.size h.size, fun x hx => (h.get x (Nat.lt_of_lt_of_le hx hE.size) (.inl (Nat.lt_of_lt_of_le hx hl))).trans (hE.get x hx)⟩
theorem Ext.grow {A A' : AH} (h : Ext A A') (lo b : Nat) : Grow lo b A A' := ⟨h.size, fun x hx _ => h.get x hx⟩
/-- A list that a function builds by append. -/
inductive Acc {α : Type} [Dat α] (lo : Nat) (A : AH) : Sl → List α → List Nat → Prop
  | nil : Acc lo A .nil [] []
  | empty (b o : Nat) : Acc lo A ⟨false, b, o, 0, 0⟩ [] []
  | own {b n c : Nat} {cs : List Value} {l : List α} {G : List Nat} (h1 : lo ≤ b) (h2 : b < A.size) (h3 : b ∉ G) (h4 : n = l.length) (h5 : c = BIG ∨ (c = n ∧ n < BIG)) (h6 : A.get b = .cells cs (Dat.w α)) (h7 : Reps A l cs G) : Acc lo A ⟨false, b, 0, n, c⟩ l G
section
variable {α : Type} [Dat α] {lo : Nat} {A A' : AH} {s : Sl} {l : List α} {G : List Nat}
theorem Acc.frame (h : Acc lo A s l G) (hz : A.size ≤ A'.size) (hg : ∀ x, x < A.size → (s.nl = false ∧ lo ≤ x ∧ x = s.b) ∨ x ∈ G → A'.get x = A.get x) : Acc lo A' s l G := by
  cases h with
  | nil => exact .nil
  | empty b o => exact .empty b o
  | own h1 h2 h3 h4 h5 h6 h7 =>
    exact .own h1 (by omega) h3 h4 h5 ((hg _ h2 (.inl ⟨rfl, h1, rfl⟩)).trans h6) (h7.frame fun x hx => ⟨hg x (h7.bound x hx) (.inr hx), by have := h7.bound x hx; omega⟩)
theorem Acc.ext (h : Acc lo A s l G) (hE : Ext A A') : Acc lo A' s l G := h.frame hE.size fun x hx _ => hE.get x hx
theorem Acc.bound (h : Acc lo A s l G) : ∀ x, x ∈ G → x < A.size := by
  cases h with
  | nil => simp
  | empty => simp
  | own h1 h2 h3 h4 h5 h6 h7 => exact h7.bound
theorem Acc.len (h : Acc lo A s l G) : s.len = l.length := by
  cases h with
  | nil => rfl
  | empty => rfl
  | own h1 h2 h3 h4 h5 h6 h7 => exact h4
theorem Acc.foot (h : Acc lo A s l G) (hf : ∀ x ∈ G, lo ≤ x) (hn : G.Nodup) : ∃ F, SlR A s l F ∧ F.Nodup ∧ (∀ x ∈ F, lo ≤ x) ∧ ∀ x ∈ F, (s.nl = false ∧ x = s.b) ∨ x ∈ G := by
  cases h with
  | nil => exact ⟨[], .nil rfl rfl rfl, by simp, by simp, by simp⟩
  | empty b o => exact ⟨[], .empty rfl rfl (by show 0 < BIG; unfold BIG; omega) rfl rfl, by simp, by simp, by simp⟩
  | own h1 h2 h3 h4 h5 h6 h7 =>
    refine ⟨_ :: G, .inB ⟨rfl, h2, h4, ?_, _, _, G, h6, ?_, rfl, ?_, rfl⟩, List.nodup_cons.2 ⟨h3, hn⟩, ?_, ?_⟩
    · rcases h5 with h5 | h5
      · exact .inl h5
      · exact .inr ⟨by simp [h5.1], by simpa [h5.1] using h5.2⟩
    · have := h7.length; simp only [Nat.zero_add, h4, this]; exact Nat.le_refl _
    · have := h7.length; simp only [List.drop_zero, h4, ← this]; rw [List.take_of_length_le (Nat.le_refl _)]; exact h7
    · intro x hx; rcases List.mem_cons.1 hx with rfl | hx; exact h1; exact hf x hx
    · intro x hx; rcases List.mem_cons.1 hx with rfl | hx; exact .inl ⟨rfl, rfl⟩; exact .inr hx
theorem Acc.slr (h : Acc lo A s l G) : ∃ F, SlR A s l F ∧ ∀ x ∈ F, (s.nl = false ∧ lo ≤ x ∧ x = s.b) ∨ x ∈ G := by
  cases h with
  | nil => exact ⟨[], .nil rfl rfl rfl, by simp⟩
  | empty b o => exact ⟨[], .empty rfl rfl (by show 0 < BIG; unfold BIG; omega) rfl rfl, by simp⟩
  | own h1 h2 h3 h4 h5 h6 h7 =>
    refine ⟨_ :: G, .inB ⟨rfl, h2, h4, ?_, _, _, G, h6, ?_, rfl, ?_, rfl⟩, ?_⟩
    · rcases h5 with h5 | h5
      · exact .inl h5
      · exact .inr ⟨by simp [h5.1], by simpa [h5.1] using h5.2⟩
    · have := h7.length; simp only [Nat.zero_add, h4, this]; exact Nat.le_refl _
    · have := h7.length; simp only [List.drop_zero, h4, ← this]; rw [List.take_of_length_le (Nat.le_refl _)]; exact h7
    · intro x hx; rcases List.mem_cons.1 hx with rfl | hx; exact .inl ⟨rfl, h1, rfl⟩; exact .inr hx
theorem Acc.fresh {A0 : AH} (h : Acc A0.size A s l G) (hf : Fresh A0 G A) : ∃ F, SlR A s l F ∧ Fresh A0 F A := by
  obtain ⟨F, h1, h2, h3, h4⟩ := h.foot hf.lo hf.nodup
  exact ⟨F, h1, h2, h3, h1.bound⟩
/-- Append. -/
theorem Acc.app {P : Program} {ro : Nat} {t : TypeId} {x : Value} {n : Nat} {vs : List Value} {xs : List α} {Gx : List Nat} (h : Acc lo A s l G) (hro : ro ≤ lo) (ht : tElemSize P t = some (Dat.w α)) (hsrc : aSource A (Dat.w α) x = some (n, vs))
    (hn : n = xs.length) (hx : Reps A xs vs Gx) (hd : s.nl = true ∨ s.b ∉ Gx) (hlim : l.length + n < 4294967296) (hlo : lo ≤ A.size) :
    ∃ s' A', aAppend P ro A t s.v x = some (s'.v, A') ∧ Acc lo A' s' (l ++ xs) (G ++ Gx) ∧ Grow lo s.b A A' ∧ (s'.nl = s.nl ∧ s'.b = s.b ∧ A' = A ∨ A.size ≤ s'.b ∧ s'.nl = false) := by
  have hneB : ∀ k : Nat, k < 4294967296 → k < BIG := fun k hk => by unfold BIG; omega
  have hfr : ∀ (o : AObj) (ys : List α) (ws : List Value) (H : List Nat), Reps A ys ws H → Reps (A.new o) ys ws H := fun o ys ws H hr => hr.frame fun b hb => ⟨AH.get_new_other (by have := hr.bound b hb; omega), by have := hr.bound b hb; show b < A.size + 1; omega⟩
  have hL : ∀ k : Nat, k < 4294967296 ↔ k < LIM := fun k => by unfold LIM; exact Iff.rfl
  cases h with
  | nil =>
    simp only [List.length_nil, Nat.zero_add] at hlim
    by_cases h0 : n = 0
    · have hxs : xs = [] := List.eq_nil_of_length_eq_zero (by omega)
      subst hxs
      obtain rfl : Gx = [] := by cases hx; rfl
      refine ⟨.nil, A, ?_, by simpa using Acc.nil, (Ext.refl A).grow _ _, .inl ⟨rfl, rfl, rfl⟩⟩
      unfold aAppend
      simp [ht, Sl.v_nil, hsrc, (hL n).1 hlim, h0]
      intro h; unfold LIM at h; omega
    · refine ⟨⟨false, A.size, 0, n, BIG⟩, A.new (.cells vs (Dat.w α)), ?_, ?_, (Ext.new A _).grow _ _, .inr ⟨Nat.le_refl _, rfl⟩⟩
      · have e : (Sl.mk false A.size 0 n BIG).v = .slice (some ⟨A.size, 0, none⟩) n BIG := rfl
        rw [Sl.v_nil, e]
        unfold aAppend
        simp [ht, hsrc, (hL n).1 hlim, h0]
      · refine .own hlo (Nat.lt_succ_self _) (fun hm => ?_) (by simpa using hn) (.inl rfl) (AH.get_new_self _ _) (by simpa using hfr _ _ _ _ hx)
        have := hx.bound _ (by simpa using hm); omega
  | empty b o =>
    simp only [List.length_nil, Nat.zero_add] at hlim
    by_cases h0 : n = 0
    · have hxs : xs = [] := List.eq_nil_of_length_eq_zero (by omega)
      subst hxs
      obtain rfl : Gx = [] := by cases hx; rfl
      refine ⟨_, A, ?_, by simpa using Acc.empty b o, (Ext.refl A).grow _ _, .inl ⟨rfl, rfl, rfl⟩⟩
      unfold aAppend
      have hB : 0 < BIG := by unfold BIG; omega
      simp [ht, hsrc, (hL n).1 hlim, h0, Sl.v, hB]
      intro h; unfold LIM at h; omega
    · refine ⟨⟨false, A.size, 0, n, BIG⟩, A.new (.cells vs (Dat.w α)), ?_, ?_, (Ext.new A _).grow _ _, .inr ⟨Nat.le_refl _, rfl⟩⟩
      · unfold aAppend
        have hB : 0 < BIG := by unfold BIG; omega
        simp [ht, hsrc, (hL n).1 hlim, h0, Sl.v, hB]
      · refine .own hlo (Nat.lt_succ_self _) (fun hm => ?_) (by simpa using hn) (.inl rfl) (AH.get_new_self _ _) (by simpa using hfr _ _ _ _ hx)
        have := hx.bound _ (by simpa using hm); omega
  | @own b m c cs l G h1 h2 h3 h4 h5 h6 h7 =>
    have hrow : aRow A ⟨b, 0, none⟩ (m * Dat.w α) = some cs := by
      have := h7.length
      rw [aRow_get h6 (by rw [h4, this]; omega), List.drop_zero, h4, ← this, List.take_of_length_le (Nat.le_refl _)]
    have hlim' : m + n < LIM := by rw [← hL, h4]; exact hlim
    rcases h5 with rfl | ⟨rfl, h5⟩
    · have hd' : b ∉ Gx := by rcases hd with hd | hd; cases hd; exact hd
      refine ⟨⟨false, A.size, 0, m + n, BIG⟩, (A.put b .dead).new (.cells (cs ++ vs) (Dat.w α)), ?_, ?_, ⟨Nat.le_succ _, fun x hx hne => ?_⟩, .inr ⟨Nat.le_refl _, rfl⟩⟩
      · unfold aAppend
        simp [ht, hsrc, hlim', Sl.v, hrow, h6, Nat.le_trans hro h1, AH.size_put]
      · have fr : ∀ (ys : List α) (ws : List Value) (H : List Nat), b ∉ H → Reps A ys ws H → Reps ((A.put b .dead).new (.cells (cs ++ vs) (Dat.w α))) ys ws H := fun ys ws H hb hr => hr.frame fun y hy => by
          have hyb := hr.bound y hy
          exact ⟨(AH.get_new_other (by show y ≠ A.size; omega)).trans (AH.get_put_other fun e => hb (e ▸ hy)), by show y < A.size + 1; omega⟩
        refine .own hlo (Nat.lt_succ_self _) (fun hm => ?_) (by rw [h4, hn, List.length_append]) (.inl rfl) (AH.get_new_self _ _) ((fr _ _ _ h3 h7).append (fr _ _ _ hd' hx))
        rcases List.mem_append.1 hm with hm | hm
        · have := h7.bound _ hm; omega
        · have := hx.bound _ hm; omega
      · rw [AH.get_new_other (by show x ≠ A.size; omega)]
        refine AH.get_put_other fun e => ?_
        subst e
        rcases hne with hne | hne
        · omega
        · exact hne rfl
    · by_cases h0 : n = 0
      · have hxs : xs = [] := List.eq_nil_of_length_eq_zero (by omega)
        subst hxs
        obtain rfl : Gx = [] := by cases hx; rfl
        refine ⟨_, A, ?_, by simpa using Acc.own h1 h2 h3 h4 (.inr ⟨rfl, h5⟩) h6 h7, (Ext.refl A).grow _ _, .inl ⟨rfl, rfl, rfl⟩⟩
        unfold aAppend
        have hlim2 : c < LIM := by omega
        simp [ht, hsrc, hlim', h0, Sl.v, h5, hlim2]
      · refine ⟨⟨false, A.size, 0, c + n, BIG⟩, A.new (.cells (cs ++ vs) (Dat.w α)), ?_, ?_, (Ext.new A _).grow _ _, .inr ⟨Nat.le_refl _, rfl⟩⟩
        · unfold aAppend
          have hnc : ¬ c + n ≤ c := by omega
          by_cases hc0 : c = 0
          · subst hc0
            have hcs : cs = [] := List.eq_nil_of_length_eq_zero (by have := h7.length; rw [this, ← h4]; simp)
            have hB : 0 < BIG := by unfold BIG; omega
            have hlim3 : n < LIM := by omega
            simp [ht, hsrc, h0, Sl.v, hcs, hB, hlim3]
          · simp only [ht, hsrc, Sl.v, Bool.false_eq_true, if_false]
            simp [hlim', h5, hrow, hc0, if_neg hnc, h0]
        · refine .own hlo (Nat.lt_succ_self _) (fun hm => ?_) (by rw [h4, hn, List.length_append]) (.inl rfl) (AH.get_new_self _ _) ((hfr _ _ _ _ h7).append (hfr _ _ _ _ hx))
          rcases List.mem_append.1 hm with hm | hm
          · have := h7.bound _ hm; omega
          · have := hx.bound _ hm; omega
theorem src_cells {x : Addr} {n : Nat} {vs cs : List Value} {e : Nat} {l : List α} {G : List Nat} (hg : A.get x.block = .cells cs e) (hs : x.spot = none) (hr : Reps A l vs G) (hn : n = l.length) (hv : (cs.drop x.off).take (n * Dat.w α) = vs) (hl : x.off + n * Dat.w α ≤ cs.length) (c : Nat) :
    aSource A (Dat.w α) (.slice (some x) n c) = some (n, vs) := by
  unfold aSource
  by_cases h0 : n = 0
  · subst h0
    have : l = [] := List.eq_nil_of_length_eq_zero hn.symm
    subst this
    cases hr
    simp
  · obtain ⟨b, o, sp⟩ := x
    cases hs
    simp only [h0, if_false]
    rw [aRow_get hg hl, hv]
    rfl
theorem SlR.src {F : List Nat} (h : SlR A s l F) : ∃ vs G, aSource A (Dat.w α) s.v = some (l.length, vs) ∧ Reps A l vs G ∧ ∀ b, b ∈ G → b ∈ F := by
  cases h with
  | nil h hl hF => subst h; subst hl; exact ⟨[], [], rfl, .nil, by simp⟩
  | empty h hn hc hl hF => subst hl; refine ⟨[], [], ?_, .nil, by simp⟩; unfold Sl.v aSource; simp [h, hn]
  | inB h =>
    obtain ⟨h1, h2, h3, h4, c, cs, G, h5, h6, h7, h8, rfl⟩ := h
    refine ⟨cs, G, ?_, h8, fun b hb => List.mem_cons_of_mem _ hb⟩
    unfold Sl.v
    rw [h1, ← h3]
    exact src_cells h5 rfl h8 h3 h7 h6 _
theorem Acc.src (h : Acc lo A s l G) : ∃ vs, aSource A (Dat.w α) s.v = some (l.length, vs) ∧ Reps A l vs G := by
  cases h with
  | nil => exact ⟨[], rfl, .nil⟩
  | empty b o => exact ⟨[], by unfold Sl.v aSource; simp, .nil⟩
  | @own b n c cs l G h1 h2 h3 h4 h5 h6 h7 =>
    refine ⟨cs, ?_, h7⟩
    have hl := h7.length
    have := src_cells (x := ⟨b, 0, none⟩) h6 rfl h7 h4 (by rw [List.drop_zero, List.take_of_length_le (by rw [h4, hl]; exact Nat.le_refl _)]) (by rw [h4, ← hl]; simp) c
    rw [h4] at this
    unfold Sl.v
    simpa [h4] using this
/-- Append of elements that stand in the text: the row of these is the newest block. -/
theorem Acc.lit {P : Program} {ro : Nat} {t : TypeId} {n : Nat} {vs : List Value} {xs : List α} {Gx : List Nat} (h : Acc lo A s l G) (hro : ro ≤ lo) (ht : tElemSize P t = some (Dat.w α)) (hn : n = xs.length) (hx : Reps A xs vs Gx) (hd : s.nl = true ∨ s.b ∉ Gx)
    (hlim : l.length + n < 4294967296) (hlo : lo ≤ A.size) :
    ∃ s' A', aAppend P ro (A.new (.cells vs (Dat.w α))) t s.v (Sl.mk false A.size 0 n n).v = some (s'.v, A') ∧ Acc lo A' s' (l ++ xs) (G ++ Gx) ∧ Grow lo s.b A A' ∧ A.size < A'.size ∧ (s'.nl = s.nl ∧ s'.b = s.b ∨ A.size < s'.b ∧ s'.nl = false) := by
  have hx' : Reps (A.new (.cells vs (Dat.w α))) xs vs Gx := hx.frame fun b hb => ⟨AH.get_new_other (by have := hx.bound b hb; omega), by have := hx.bound b hb; show b < A.size + 1; omega⟩
  obtain ⟨s', A', h1, h2, h3, h4⟩ := (h.ext (Ext.new A (.cells vs (Dat.w α)))).app (x := (Sl.mk false A.size 0 n n).v) hro ht (n := n) (vs := vs) (by
    unfold Sl.v aSource
    by_cases h0 : n = 0
    · have : vs = [] := List.eq_nil_of_length_eq_zero (by rw [hx.length, ← hn, h0]; simp)
      subst h0
      simp [this]
    · simp only [h0, if_false, Bool.false_eq_true]
      have e1 : n * Dat.w α = vs.length := by rw [hx.length, ← hn]
      rw [aRow_get (AH.get_new_self _ _) (by omega), List.drop_zero, List.take_of_length_le (by omega)]
      rfl) hn hx' hd hlim (by show lo ≤ A.size + 1; omega)
  refine ⟨s', A', h1, h2, ⟨Nat.le_trans (Nat.le_succ _) h3.size, fun x hx hne => (h3.get x (by show x < A.size + 1; omega) hne).trans (AH.get_new_other (by omega))⟩, Nat.lt_of_lt_of_le (Nat.lt_succ_self _) h3.size, ?_⟩
  rcases h4 with ⟨h4, h5, h6⟩ | ⟨h4, h5⟩
  · exact .inl ⟨h4, h5⟩
  · exact .inr ⟨h4, h5⟩
end
/-! ### Bytes -/
def bv (b : UInt8) : Value := .int .u8 b.toNat
theorem Reps.u8 {A : AH} {l : List UInt8} {cs : List Value} {G : List Nat} (h : Reps A l cs G) : cs = l.map bv ∧ G = [] := by
  induction h with
  | nil => exact ⟨rfl, rfl⟩
  | cons h k ih => obtain ⟨rfl, rfl⟩ := h; obtain ⟨rfl, rfl⟩ := ih; exact ⟨rfl, rfl⟩
theorem Reps.ofU8 (A : AH) : ∀ l : List UInt8, Reps A l (l.map bv) []
  | [] => .nil
  | b :: l => .cons (x := b) (F := []) ⟨rfl, rfl⟩ (Reps.ofU8 A l)
theorem strOf_bv : ∀ l : List UInt8, strOf (l.map bv) = some l
  | [] => rfl
  | b :: l => by
    show (strOf (l.map bv)).map (UInt8.ofNat (b.toNat : Int).toNat :: ·) = _
    rw [strOf_bv l]
    simp
/-- A text out of a list of bytes. -/
abbrev bs (l : List UInt8) : ByteArray := ⟨l.toArray⟩
abbrev ls (s : ByteArray) : List UInt8 := s.data.toList
theorem bs_ls (s : ByteArray) : bs (ls s) = s := by cases s; simp [bs, ls]
theorem ls_bs (l : List UInt8) : ls (bs l) = l := by simp [bs, ls]
theorem bs_inj {l k : List UInt8} : bs l = bs k ↔ l = k := ⟨fun h => by have := congrArg ls h; simpa using this, fun h => by rw [h]⟩
theorem bs_app (l k : List UInt8) : bs l ++ bs k = bs (l ++ k) := by
  have : (bs l ++ bs k).data = (bs l).data ++ (bs k).data := ByteArray.data_append
  have h2 : bs l ++ bs k = ⟨(bs l ++ bs k).data⟩ := rfl
  rw [h2, this]
  simp [bs]
theorem bs_size (l : List UInt8) : (bs l).size = l.length := by show l.toArray.size = _; simp
theorem ls_length (s : ByteArray) : (ls s).length = s.size := by show s.data.toList.length = s.data.size; simp
theorem bget_ls (s : ByteArray) (i : Nat) (h : i < s.size) : (ls s)[i]'(by rw [ls_length]; exact h) = bget s i := by
  have h' : i < s.data.size := h
  unfold bget
  simp [Array.getD_eq_getD_getElem?, Array.getElem?_eq_getElem h']
theorem ls_take_succ (s : ByteArray) (i : Nat) (h : i < s.size) : (ls s).take (i + 1) = (ls s).take i ++ [bget s i] := by
  rw [List.take_succ_eq_append_getElem (by rw [ls_length]; exact h), bget_ls s i h]
theorem bs_extract (s : ByteArray) (i j : Nat) : s.extract i j = bs (((ls s).drop i).take (j - i)) := by
  have h : (s.extract i j).data = s.data.extract i j := by simp
  have e : s.extract i j = ⟨(s.extract i j).data⟩ := rfl
  rw [e, h]
  congr 1
  apply Array.toList_inj.1
  simp [List.extract_eq_take_drop]
theorem bytesOf_ls (s : ByteArray) : bytesOf s = (ls s).map bv := rfl
/-- Bytes to a text. -/
theorem SlR.toStr {A : AH} {s : Sl} {l : List UInt8} {F : List Nat} (h : SlR A s l F) :
    (if s.nl = true ∨ s.len = 0 then some (Value.string .empty, A) else (rowK s.o s.len (A.get s.b)).bind fun cs => (strOf cs).map fun l => (Value.string ⟨l.toArray⟩, A)) = some (Value.string (bs l), A) := by
  cases h with
  | nil h hl _ => subst h; subst hl; rfl
  | empty h hn _ hl _ => subst hl; rw [if_pos (.inr hn)]; rfl
  | inB h =>
    obtain ⟨h1, h2, h3, h4, c, cs, G, h5, h6, h7, h8, rfl⟩ := h
    have hw : Dat.w UInt8 = 1 := rfl
    rw [hw, Nat.mul_one] at h6 h7
    by_cases h0 : s.len = 0
    · rw [if_pos (.inr h0)]
      have : l = [] := List.eq_nil_of_length_eq_zero (by omega)
      subst this; rfl
    · rw [if_neg (by simp [h1, h0]), h5]
      unfold rowK
      simp only [if_pos h6, Option.bind_some, h7, h8.u8.1, strOf_bv, Option.map_some]
end Go.AM
