/- Plain: two stores merged. -/
import Derived.Test.YtcdnlghlbljopaaDoorAmSame
namespace Go.AM
open Go
set_option linter.unusedVariables false
set_option linter.unusedSimpArgs false
/-- A text put among others, whatever their number. -/
def insU (w : Int) (l : List ByteArray) (t : ByteArray) : List ByteArray := match getR w (sumS t w) l with | some _ => l | none => insR' w l t
def insAll (w : Int) (a b : List ByteArray) : List ByteArray := b.foldl (insU w) a
/-- The first text of b with the sum of another text of a. -/
def clash1 (w : Int) (a : List ByteArray) : List ByteArray → Option (ByteArray × ByteArray)
  | [] => none
  | t :: b => match getR w (sumS t w) a with
    | some x => if x = t then clash1 w a b else some (x, t)
    | none => clash1 w a b
def newRecs (a b : List TRecord) : List TRecord := b.filter fun r => !(a.any fun x => decide (x = r))
def mergeR (a b : TStore) : TKept :=
  if ¬ StoreOk a ∨ ¬ StoreOk b ∨ a.1 ≠ b.1 then (1, zeroSt, ⟨#[]⟩, ⟨#[]⟩) else
  match clash1 a.1 a.2.1 b.2.1 with
  | some (x, t) => (2, zeroSt, x, t)
  | none =>
    if 5000 < (insAll a.1 a.2.1 b.2.1).length ∨ 2000 < (a.2.2 ++ newRecs a.2.2 b.2.2).length then (3, zeroSt, ⟨#[]⟩, ⟨#[]⟩)
    else (0, (a.1, insAll a.1 a.2.1 b.2.1, a.2.2 ++ newRecs a.2.2 b.2.2), ⟨#[]⟩, ⟨#[]⟩)
theorem insR'_len (w : Int) (l : List ByteArray) (t : ByteArray) : (insR' w l t).length = l.length + 1 := by
  have := plc_le w (sumS t w) l
  unfold insR'
  rw [List.length_append, List.length_take, List.length_cons, List.length_drop]
  omega
theorem insU_len (w : Int) (l : List ByteArray) (t : ByteArray) : l.length ≤ (insU w l t).length ∧ (insU w l t).length ≤ l.length + 1 := by
  unfold insU
  cases getR w (sumS t w) l with
  | some o => exact ⟨Nat.le_refl _, Nat.le_succ _⟩
  | none => simp only; rw [insR'_len]; exact ⟨Nat.le_succ _, Nat.le_refl _⟩
theorem insAll_len (w : Int) : ∀ (b a : List ByteArray), a.length ≤ (insAll w a b).length ∧ (insAll w a b).length ≤ a.length + b.length
  | [], a => ⟨Nat.le_refl _, Nat.le_refl _⟩
  | t :: b, a => by
    have h1 := insU_len w a t
    have h2 := insAll_len w b (insU w a t)
    show a.length ≤ (insAll w (insU w a t) b).length ∧ _
    rw [List.length_cons]
    exact ⟨by omega, by show (insAll w (insU w a t) b).length ≤ _; omega⟩
theorem insAll_app (w : Int) (a b c : List ByteArray) : insAll w a (b ++ c) = insAll w (insAll w a b) c := by unfold insAll; rw [List.foldl_append]
theorem insAll_succ (w : Int) (a : List ByteArray) {b : List ByteArray} {j : Nat} (hj : j < b.length) : insAll w a (b.take (j + 1)) = insU w (insAll w a (b.take j)) b[j] := by
  rw [List.take_succ_eq_append_getElem hj, insAll_app]; rfl
theorem insAll_mono (w : Int) (a b : List ByteArray) (j : Nat) : (insAll w a (b.take j)).length ≤ (insAll w a b).length := by
  have := (insAll_len w (b.drop j) (insAll w a (b.take j))).1
  rwa [← insAll_app, List.take_append_drop] at this
/-! ### What rises stays rising -/
theorem Rising.iff {w : Int} {l : List ByteArray} : Rising w l ↔ ∀ i (h : i + 1 < l.length), slt (sumS l[i] w) (sumS l[i + 1] w) := by
  constructor
  · intro h i hi; exact h.lt (Nat.lt_succ_self i) hi
  · intro h
    have : ∀ n, n ≤ l.length → Rising w (l.take n) := by
      intro n
      induction n with
      | zero => intro _; trivial
      | succ n ih =>
        intro hn
        cases n with
        | zero => rw [List.take_succ_eq_append_getElem (by omega)]; trivial
        | succ n => exact (Rising.step (by omega)).2 ⟨ih (by omega), h n (by omega)⟩
    have := this l.length (Nat.le_refl _)
    rwa [List.take_length] at this
theorem Rising.drop {w : Int} {l : List ByteArray} (h : Rising w l) (n : Nat) : Rising w (l.drop n) := by
  rw [Rising.iff]
  intro i hi
  rw [List.length_drop] at hi
  rw [List.getElem_drop, List.getElem_drop]
  exact h.lt (by omega) (by omega)
theorem plc_take {w : Int} {s : ByteArray} {l : List ByteArray} : ∀ t ∈ l.take (plc w s l), slt (sumS t w) s := by
  induction l with
  | nil => intro t ht; simp at ht
  | cons a l ih =>
    intro t ht
    unfold plc at ht
    split at ht
    · rw [List.take_succ_cons] at ht
      rcases List.mem_cons.1 ht with rfl | ht
      · assumption
      · exact ih t ht
    · simp at ht
theorem plc_at {w : Int} {s : ByteArray} {l : List ByteArray} (h : plc w s l < l.length) : ¬ slt (sumS l[plc w s l] w) s := by
  induction l with
  | nil => simp at h
  | cons a l ih =>
    by_cases k : slt (sumS a w) s
    · have e : plc w s (a :: l) = plc w s l + 1 := by rw [plc, if_pos k]
      have h' : plc w s l < l.length := by rw [e] at h; simpa using h
      have := ih h'
      simp only [e, List.getElem_cons_succ]
      exact this
    · have e : plc w s (a :: l) = 0 := by rw [plc, if_neg k]
      simp only [e, List.getElem_cons_zero]
      exact k
theorem slt_of_not {a b : ByteArray} (h : ¬ slt a b) (e : a ≠ b) : slt b a := Classical.byContradiction fun k => e (slt_total h k)
theorem getR_none_at {w : Int} {s : ByteArray} {l : List ByteArray} (h : getR w s l = none) (k : plc w s l < l.length) : slt s (sumS l[plc w s l] w) := by
  refine slt_of_not (plc_at k) (fun e => ?_)
  rw [getR_some k e] at h
  cases h
theorem Rising.ins {w : Int} {l : List ByteArray} {t : ByteArray} (h : Rising w l) (hn : getR w (sumS t w) l = none) : Rising w (insR' w l t) := by
  have hle := plc_le w (sumS t w) l
  have hat := @getR_none_at w (sumS t w) l hn
  have htk := @plc_take w (sumS t w) l
  unfold insR'
  generalize plc w (sumS t w) l = p at *
  rw [Rising.iff]
  intro i hi
  have hlen : (l.take p ++ t :: l.drop p).length = l.length + 1 := by rw [List.length_append, List.length_take, List.length_cons, List.length_drop]; omega
  rw [hlen] at hi
  have hg : ∀ j (hj : j < (l.take p ++ t :: l.drop p).length), (l.take p ++ t :: l.drop p)[j] = if h1 : j < p then l[j]'(by omega) else if h2 : j = p then t else l[j - 1]'(by rw [hlen] at hj; omega) := by
    intro j hj
    have hpl : (l.take p).length = p := by rw [List.length_take]; omega
    by_cases h1 : j < p
    · rw [dif_pos h1, List.getElem_append_left (by omega), List.getElem_take]
    · rw [dif_neg h1, List.getElem_append_right (by omega)]
      by_cases h2 : j = p
      · subst h2; rw [dif_pos rfl]; simp only [hpl, Nat.sub_self, List.getElem_cons_zero]
      · rw [dif_neg h2]
        have e : j - (l.take p).length = (j - 1 - p) + 1 := by omega
        simp only [e, List.getElem_cons_succ, List.getElem_drop]
        congr 1; omega
  rw [hg i (by omega), hg (i + 1) (by omega)]
  by_cases h1 : i + 1 < p
  · rw [dif_pos (by omega), dif_pos h1]; exact h.lt (by omega) (by omega)
  · by_cases h2 : i + 1 = p
    · rw [dif_pos (by omega), dif_neg (by omega), dif_pos h2]
      exact htk _ (by rw [List.mem_take_iff_getElem]; exact ⟨i, by omega, rfl⟩)
    · by_cases h3 : i = p
      · subst h3
        rw [dif_neg (by omega), dif_pos rfl, dif_neg (by omega), dif_neg (by omega)]
        simpa using hat (by omega)
      · rw [dif_neg (by omega), dif_neg h3, dif_neg (by omega), dif_neg (by omega)]
        have := h.lt (i := i - 1) (j := i) (by omega) (by omega)
        simpa using this
theorem Rising.insU {w : Int} {l : List ByteArray} {t : ByteArray} (h : Rising w l) : Rising w (AM.insU w l t) := by
  unfold AM.insU
  cases hg : getR w (sumS t w) l with
  | some o => exact h
  | none => exact h.ins hg
theorem Rising.insAll {w : Int} : ∀ {b a : List ByteArray}, Rising w a → Rising w (AM.insAll w a b)
  | [], a, h => h
  | t :: b, a, h => Rising.insAll (b := b) (Rising.insU (t := t) h)
/-- In a rising list a text is found by its sum. -/
theorem getR_of_mem {w : Int} {l : List ByteArray} (h : Rising w l) {o : ByteArray} (ho : o ∈ l) : getR w (sumS o w) l = some o := by
  obtain ⟨i, hi, rfl⟩ := List.mem_iff_getElem.1 ho
  have e : plc w (sumS l[i] w) l = i := plc_eq i (Nat.le_of_lt hi) (fun t ht => by
    obtain ⟨k, hk, rfl⟩ := List.mem_iff_getElem.1 ht
    rw [List.length_take] at hk
    rw [List.getElem_take]
    exact h.lt (by omega) hi) (fun _ => slt_irrefl _)
  have := getR_some (w := w) (s := sumS l[i] w) (l := l) (by rw [e]; exact hi) (by simp only [e])
  simpa only [e] using this
theorem insR'_mem {w : Int} {l : List ByteArray} {t o : ByteArray} : o ∈ insR' w l t ↔ o = t ∨ o ∈ l := by
  unfold insR'
  have h := List.take_append_drop (plc w (sumS t w) l) l
  constructor
  · intro h1
    rcases List.mem_append.1 h1 with h1 | h1
    · exact .inr (List.mem_of_mem_take h1)
    · rcases List.mem_cons.1 h1 with h1 | h1
      · exact .inl h1
      · exact .inr (List.mem_of_mem_drop h1)
  · rintro (rfl | h1)
    · simp
    · rw [← h] at h1
      rcases List.mem_append.1 h1 with h1 | h1
      · exact List.mem_append_left _ h1
      · exact List.mem_append_right _ (List.mem_cons_of_mem _ h1)
theorem insU_mem {w : Int} {l : List ByteArray} {t o : ByteArray} (h : o ∈ insU w l t) : o = t ∨ o ∈ l := by
  unfold insU at h
  cases hg : getR w (sumS t w) l with
  | some x => rw [hg] at h; exact .inr h
  | none => rw [hg] at h; exact insR'_mem.1 h
theorem insAll_mem {w : Int} : ∀ {b a : List ByteArray} {o : ByteArray}, o ∈ insAll w a b → o ∈ a ∨ o ∈ b
  | [], a, o, h => .inl h
  | t :: b, a, o, h => by
    rcases insAll_mem (b := b) (a := insU w a t) h with h | h
    · rcases insU_mem h with h | h
      · exact .inr (by rw [h]; simp)
      · exact .inl h
    · exact .inr (by simp [h])
/-! ### Clashes -/
theorem clash1_app (w : Int) (a : List ByteArray) : ∀ b c : List ByteArray, clash1 w a (b ++ c) = match clash1 w a b with | some z => some z | none => clash1 w a c
  | [], c => rfl
  | t :: b, c => by
    rw [List.cons_append, clash1, clash1]
    cases getR w (sumS t w) a with
    | none => exact clash1_app w a b c
    | some x =>
      simp only
      split
      · exact clash1_app w a b c
      · rfl
theorem clash1_succ {w : Int} {a b : List ByteArray} {j : Nat} (hj : j < b.length) (h : clash1 w a (b.take j) = none) :
    clash1 w a (b.take (j + 1)) = match getR w (sumS b[j] w) a with | some x => if x = b[j] then none else some (x, b[j]) | none => none := by
  rw [List.take_succ_eq_append_getElem hj, clash1_app, h]
  simp only [clash1]
theorem clash1_found {w : Int} {a b : List ByteArray} {j : Nat} {z : ByteArray × ByteArray} (h : clash1 w a (b.take j) = some z) : clash1 w a b = some z := by
  have := clash1_app w a (b.take j) (b.drop j)
  rw [List.take_append_drop, h] at this
  exact this
/-- No clash: what has a text's sum is that text. -/
theorem clash1_none {w : Int} {a : List ByteArray} : ∀ {b : List ByteArray}, clash1 w a b = none → ∀ t ∈ b, ∀ x, getR w (sumS t w) a = some x → x = t
  | [], _, t, ht, _, _ => by cases ht
  | u :: b, h, t, ht, x, hx => by
    rw [clash1] at h
    cases hg : getR w (sumS u w) a with
    | none =>
      rw [hg] at h
      rcases List.mem_cons.1 ht with rfl | ht
      · rw [hg] at hx; cases hx
      · exact clash1_none h t ht x hx
    | some y =>
      rw [hg] at h
      simp only at h
      split at h
      · rename_i e
        rcases List.mem_cons.1 ht with rfl | ht
        · rw [hg] at hx; cases hx; exact e
        · exact clash1_none h t ht x hx
      · cases h
/-- Without a clash, a text of b that has its sum in what was put so far is there already. -/
theorem putKind_merge {w : Int} {a b : List ByteArray} (ha : Rising w a) (hb : Rising w b) (h : clash1 w a b = none) {j : Nat} (hj : j < b.length) :
    putKind w (insAll w a (b.take j)) b[j] = if (getR w (sumS b[j] w) (insAll w a (b.take j))).isSome then .same else if 5000 ≤ (insAll w a (b.take j)).length then .full else .put := by
  unfold putKind
  cases hg : getR w (sumS b[j] w) (insAll w a (b.take j)) with
  | none => rfl
  | some o =>
    simp only [Option.isSome_some, if_true]
    obtain ⟨hm, hs⟩ := getR_mem hg
    have e : o = b[j] := by
      rcases insAll_mem hm with hm | hm
      · have := getR_of_mem ha hm
        rw [hs] at this
        exact clash1_none h _ (List.getElem_mem hj) _ this
      · obtain ⟨k, hk, rfl⟩ := List.mem_iff_getElem.1 hm
        rw [List.length_take] at hk
        rw [List.getElem_take] at hs
        have := hb.lt (i := k) (j := j) (by omega) hj
        rw [hs] at this
        exact absurd this (slt_irrefl _)
    rw [if_pos e]
/-! ### The walk through both lists -/
theorem plc_mid {w : Int} {s : ByteArray} {pre post : List ByteArray} (h1 : ∀ t ∈ pre, slt (sumS t w) s) (h2 : ∀ x r, post = x :: r → ¬ slt (sumS x w) s) : plc w s (pre ++ post) = pre.length :=
  plc_eq pre.length (by rw [List.length_append]; omega) (fun t ht => h1 t (by rwa [List.take_left'] at ht; rfl)) (fun h => by
    rw [List.getElem_append_right (Nat.le_refl _)]
    cases post with
    | nil => simp at h
    | cons x r => simpa using h2 x r rfl)
theorem insU_mid {w : Int} {t : ByteArray} {pre post : List ByteArray} (h1 : ∀ x ∈ pre, slt (sumS x w) (sumS t w)) (h2 : ∀ x r, post = x :: r → slt (sumS t w) (sumS x w)) : insU w (pre ++ post) t = pre ++ t :: post := by
  have hp := plc_mid (w := w) (s := sumS t w) h1 (fun x r e => slt_asymm (h2 x r e))
  have hn : getR w (sumS t w) (pre ++ post) = none := by
    by_cases hl : plc w (sumS t w) (pre ++ post) < (pre ++ post).length
    · refine getR_ne hl (fun e => ?_)
      simp only [hp] at e hl
      rw [List.getElem_append_right (Nat.le_refl _)] at e
      cases post with
      | nil => simp at hl
      | cons x r =>
        have := h2 x r rfl
        simp only [Nat.sub_self, List.getElem_cons_zero] at e
        rw [e] at this
        exact slt_irrefl _ this
    · exact getR_end hl
  unfold insU insR'
  rw [hn, hp]
  simp
theorem insU_same {w : Int} {t x : ByteArray} {pre r : List ByteArray} (h1 : ∀ x ∈ pre, slt (sumS x w) (sumS t w)) (e : sumS x w = sumS t w) : insU w (pre ++ x :: r) t = pre ++ x :: r := by
  have hp := plc_mid (w := w) (s := sumS t w) (post := x :: r) h1 (fun y k h => by cases h; rw [e]; exact slt_irrefl _)
  have hl : plc w (sumS t w) (pre ++ x :: r) < (pre ++ x :: r).length := by rw [hp]; simp
  have hg : getR w (sumS t w) (pre ++ x :: r) = some ((pre ++ x :: r)[plc w (sumS t w) (pre ++ x :: r)]) := getR_some hl (by
    simp only [hp]
    rw [List.getElem_append_right (Nat.le_refl _)]
    simpa using e)
  unfold insU
  rw [hg]
theorem newRecs_succ (a : List TRecord) {b : List TRecord} {i : Nat} (hi : i < b.length) : newRecs a (b.take (i + 1)) = newRecs a (b.take i) ++ (if (a.any fun x => decide (x = b[i])) = true then [] else [b[i]]) := by
  unfold newRecs
  rw [List.take_succ_eq_append_getElem hi, List.filter_append]
  congr 1
  by_cases h : (a.any fun x => decide (x = b[i])) = true
  · rw [if_pos h]; simp only [List.filter_cons, h, Bool.not_true, Bool.false_eq_true, if_false, List.filter_nil]
  · rw [if_neg h]
    have h' : (a.any fun x => decide (x = b[i])) = false := Bool.eq_false_iff.2 h
    simp only [List.filter_cons, h', Bool.not_false, if_true, List.filter_nil]
theorem newRecs_mono (a b : List TRecord) (i : Nat) : (newRecs a (b.take i)).length ≤ (newRecs a b).length := by
  have h := List.take_append_drop i b
  unfold newRecs
  conv => rhs; rw [← h]
  rw [List.filter_append, List.length_append]
  omega
theorem newRecs_le (a b : List TRecord) : (newRecs a b).length ≤ b.length := List.length_filter_le _ _
theorem any_succ (r : TRecord) {l : List TRecord} {k : Nat} (hk : k < l.length) : ((l.take (k + 1)).any fun x => decide (x = r)) = (((l.take k).any fun x => decide (x = r)) || decide (l[k] = r)) := by
  rw [List.take_succ_eq_append_getElem hk, List.any_append]; simp
theorem insU_sz (w : Int) (l : List ByteArray) (t : ByteArray) : szL Mk.sz (insU w l t) ≤ szL Mk.sz l + 1 + t.size := by
  unfold insU
  cases getR w (sumS t w) l with
  | some o => simp only; omega
  | none => simp only; rw [insR'_sz]; exact Nat.le_refl _
theorem insAll_sz (w : Int) : ∀ (b a : List ByteArray), szL Mk.sz (insAll w a b) ≤ szL Mk.sz a + szL Mk.sz b
  | [], a => by show szL Mk.sz a ≤ _; omega
  | t :: b, a => by
    have h1 := insU_sz w a t
    have h2 := insAll_sz w b (insU w a t)
    have e : szL Mk.sz (t :: b) = 1 + t.size + szL Mk.sz b := by rw [szL_cons']; rfl
    show szL Mk.sz (insAll w (insU w a t) b) ≤ _
    omega
theorem clash1_mem {w : Int} {a : List ByteArray} : ∀ {b : List ByteArray} {x t : ByteArray}, clash1 w a b = some (x, t) → x ∈ a ∧ t ∈ b
  | [], _, _, h => by cases h
  | u :: b, x, t, h => by
    rw [clash1] at h
    cases hg : getR w (sumS u w) a with
    | none => rw [hg] at h; have := clash1_mem h; exact ⟨this.1, by simp [this.2]⟩
    | some y =>
      rw [hg] at h
      simp only at h
      split at h
      · have := clash1_mem h; exact ⟨this.1, by simp [this.2]⟩
      · cases h; exact ⟨(getR_mem hg).1, by simp⟩
theorem mergeR_sz (x y : TStore) : Mk.sz (mergeR x y) ≤ Mk.sz x + Mk.sz y := by
  have e1 : Mk.sz x = 0 + (szL Mk.sz x.2.1 + szL Mk.sz x.2.2) := rfl
  have e2 : Mk.sz y = 0 + (szL Mk.sz y.2.1 + szL Mk.sz y.2.2) := rfl
  unfold mergeR
  split
  · show 0 + ((0 + (0 + 0)) + (0 + 0)) ≤ _; omega
  · cases hc : clash1 x.1 x.2.1 y.2.1 with
    | some z =>
      obtain ⟨a, b⟩ := z
      have := clash1_mem hc
      have h1 := szL_mem this.1
      have h2 := szL_mem this.2
      show 0 + ((0 + (0 + 0)) + (a.size + b.size)) ≤ _
      omega
    | none =>
      simp only
      split
      · show 0 + ((0 + (0 + 0)) + (0 + 0)) ≤ _; omega
      · have h1 := insAll_sz x.1 y.2.1 x.2.1
        have h2 : szL Mk.sz (x.2.2 ++ newRecs x.2.2 y.2.2) ≤ szL Mk.sz x.2.2 + szL Mk.sz y.2.2 := by
          rw [szL_app]; have := szL_filter Mk.sz (fun r => !(x.2.2.any fun z => decide (z = r))) y.2.2
          have e : szL Mk.sz (newRecs x.2.2 y.2.2) ≤ szL Mk.sz y.2.2 := this
          omega
        show 0 + ((0 + (szL Mk.sz (insAll x.1 x.2.1 y.2.1) + szL Mk.sz (x.2.2 ++ newRecs x.2.2 y.2.2))) + (0 + 0)) ≤ _
        omega
theorem Acc.bub {α : Type} [Dat α] {lo n : Nat} {A : AH} {s : Sl} {l : List α} {G : List Nat} (h : Acc lo A s l G) (k : s.nl = true ∨ s.b < n) (h0 : 0 < n) : s.b < n := by
  cases h with
  | nil => exact h0
  | empty b o => rcases k with k | k; cases k; exact k
  | own h1 h2 h3 h4 h5 h6 h7 => rcases k with k | k; cases k; exact k
theorem rise_drop {w : Int} {l : List ByteArray} (h : Rising w l) {j : Nat} (hj : j < l.length) : ∀ t ∈ l.drop (j + 1), slt (sumS l[j] w) (sumS t w) := by
  intro t ht
  obtain ⟨k, hk, rfl⟩ := List.mem_iff_getElem.1 ht
  rw [List.length_drop] at hk
  rw [List.getElem_drop]
  exact h.lt (by omega) (by omega)
theorem drop_mem {α : Type} {l : List α} {j : Nat} (hj : j < l.length) : l[j] ∈ l.drop j := by
  rw [List.drop_eq_getElem_cons hj]; exact List.mem_cons_self
theorem drop_app {α : Type} {out l : List α} {p : Nat} (hp : p < l.length) : (out ++ [l[p]]) ++ l.drop (p + 1) = out ++ l.drop p := by
  rw [List.drop_eq_getElem_cons hp, List.append_assoc]; rfl
theorem mem_take_succ {α : Type} {l : List α} {p : Nat} {z : α} (hp : p < l.length) (h : z ∈ l.take (p + 1)) : z ∈ l.take p ∨ z = l[p] := by
  rw [List.take_succ_eq_append_getElem hp] at h
  rcases List.mem_append.1 h with h | h
  · exact .inl h
  · exact .inr (List.mem_singleton.1 h)
end Go.AM
