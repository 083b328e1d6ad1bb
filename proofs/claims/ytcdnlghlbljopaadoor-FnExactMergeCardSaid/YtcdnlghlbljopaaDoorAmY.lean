/- Plain: where a sum stands among rising texts. -/
import Derived.Test.YtcdnlghlbljopaaDoorAmX
namespace Go.AM
open Go
set_option linter.unusedVariables false
set_option linter.unusedSimpArgs false
/-- How many texts stand ahead of a sum. -/
def plc (w : Int) (s : ByteArray) : List ByteArray → Nat
  | [] => 0
  | a :: l => if slt (sumS a w) s then plc w s l + 1 else 0
theorem plc_le (w : Int) (s : ByteArray) : ∀ l : List ByteArray, plc w s l ≤ l.length
  | [] => Nat.le_refl _
  | a :: l => by
    have := plc_le w s l
    unfold plc
    split
    · simp only [List.length_cons]; omega
    · omega
theorem plc_eq {w : Int} {s : ByteArray} : ∀ {l : List ByteArray} (i : Nat), i ≤ l.length → (∀ t ∈ l.take i, slt (sumS t w) s) → (∀ h : i < l.length, ¬ slt (sumS l[i] w) s) → plc w s l = i
  | [], i, h, _, _ => by have : i = 0 := by simpa using h
                         subst this; rfl
  | a :: l, 0, _, _, h => by
    have := h (by simp)
    unfold plc
    rw [if_neg (by simpa using this)]
  | a :: l, i + 1, hi, ht, h => by
    unfold plc
    rw [if_pos (ht a (by simp)), plc_eq (l := l) i (by simpa using hi) (fun t hm => ht t (by simp [hm])) (fun hl => by have := h (by simpa using hl); rw [List.getElem_cons_succ] at this; exact this)]
/-- The sums rise from any place to any later one. -/
theorem Rising.lt {w : Int} {l : List ByteArray} (h : Rising w l) {i j : Nat} (hij : i < j) (hj : j < l.length) : slt (sumS l[i] w) (sumS l[j] w) := by
  have step : ∀ k (hk : k + 1 < l.length), slt (sumS l[k] w) (sumS l[k + 1] w) := fun k hk => ((Rising.step hk).1 (Rising.take _ h)).2
  obtain ⟨d, rfl⟩ : ∃ d, j = i + 1 + d := ⟨j - (i + 1), by omega⟩
  induction d with
  | zero => exact step i hj
  | succ d ih => exact slt_trans (ih (by omega) (by omega) step) (step (i + 1 + d) hj)
theorem plc_search {w : Int} {s : ByteArray} {l : List ByteArray} (h : Rising w l) {i : Nat} (hi : i ≤ l.length) (h1 : ∀ k (hk : k < l.length), i = k + 1 → slt (sumS l[k] w) s) (h2 : ∀ hl : i < l.length, ¬ slt (sumS l[i] w) s) : plc w s l = i := by
  refine plc_eq i hi (fun t ht => ?_) h2
  obtain ⟨k, hk, rfl⟩ := List.mem_iff_getElem.1 ht
  rw [List.getElem_take]
  have hk' : k < i ∧ k < l.length := by simp at hk; omega
  rcases Nat.lt_or_ge (k + 1) i with hlt | hge
  · exact slt_trans (h.lt (i := k) (j := i - 1) (by omega) (by omega)) (h1 (i - 1) (by omega) (by omega))
  · exact h1 k hk'.2 (by omega)
/-- The text of a sum among texts. -/
def getR (w : Int) (s : ByteArray) (l : List ByteArray) : Option ByteArray := (l[plc w s l]?).bind fun t => if sumS t w = s then some t else none
theorem getR_some {w : Int} {s : ByteArray} {l : List ByteArray} (h : plc w s l < l.length) (e : sumS l[plc w s l] w = s) : getR w s l = some l[plc w s l] := by
  unfold getR; rw [List.getElem?_eq_getElem h]; simp [e]
theorem getR_ne {w : Int} {s : ByteArray} {l : List ByteArray} (h : plc w s l < l.length) (e : ¬ sumS l[plc w s l] w = s) : getR w s l = none := by
  unfold getR; rw [List.getElem?_eq_getElem h]; simp [e]
theorem getR_end {w : Int} {s : ByteArray} {l : List ByteArray} (h : ¬ plc w s l < l.length) : getR w s l = none := by
  unfold getR; rw [List.getElem?_eq_none (by omega)]; rfl
theorem dslt (a b : ByteArray) : decide (slt a b) = Op.bytesLess a.toList b.toList := by
  by_cases h : slt a b
  · rw [decide_eq_true h]; exact h.symm
  · rw [decide_eq_false h]
    cases hb : Op.bytesLess a.toList b.toList with
    | false => rfl
    | true => exact absurd hb h
theorem sle_not {a b : ByteArray} : (Op.bytesLess b.toList a.toList || decide (b = a)) = !decide (slt a b) := by
  by_cases h : slt a b
  · rw [(sle_facts.1 h).1, decide_eq_false (sle_facts.1 h).2, decide_eq_true h]; rfl
  · rw [sle_facts.2 h, decide_eq_false h]; rfl
end Go.AM
