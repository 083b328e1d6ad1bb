/- Plain: a space without what lies under a name; what is set under one. -/
import Derived.Test.YtcdnlghlbljopaaDoorAmFlag
namespace Go.AM
open Go
set_option linter.unusedVariables false
set_option linter.unusedSimpArgs false
def wo {α : Type} (n : ByteArray) (l : List (ByteArray × α)) : List (ByteArray × α) := l.filter fun x => decide (x.1 ≠ n)
theorem wo_take_succ {α : Type} (n : ByteArray) {l : List (ByteArray × α)} {i : Nat} (hi : i < l.length) : wo n (l.take (i + 1)) = wo n (l.take i) ++ (if l[i].1 = n then [] else [l[i]]) := by
  unfold wo
  rw [List.take_succ_eq_append_getElem hi, List.filter_append]
  by_cases h : l[i].1 = n
  · simp [h]
  · simp [h]
theorem wo_length {α : Type} (n : ByteArray) (l : List (ByteArray × α)) : (wo n l).length ≤ l.length := List.length_filter_le _ _
theorem wo_length_iff {α : Type} (n : ByteArray) (l : List (ByteArray × α)) : (wo n l).length = l.length ↔ ∀ x ∈ l, x.1 ≠ n := by
  unfold wo
  rw [List.length_filter_eq_length_iff]
  simp
theorem wo_mem {α : Type} {n : ByteArray} {l : List (ByteArray × α)} {x : ByteArray × α} : x ∈ wo n l ↔ x ∈ l ∧ x.1 ≠ n := by
  unfold wo
  simp
def withoutR (x : TSpace) (n : ByteArray) : TSpace := (wo n x.1, wo n x.2)
/-- Something lies under the name. -/
def lies (x : TSpace) (n : ByteArray) : Prop := ¬ ((∀ s ∈ x.1, s.1 ≠ n) ∧ ∀ t ∈ x.2, t.1 ≠ n)
instance (x : TSpace) (n : ByteArray) : Decidable (lies x n) := by unfold lies; infer_instance
theorem lies_size (x : TSpace) (n : ByteArray) : ((wo n x.1).length + (wo n x.2).length : Int) = x.1.length + x.2.length ↔ ¬ lies x n := by
  have h1 := wo_length n x.1
  have h2 := wo_length n x.2
  unfold lies
  rw [Classical.not_not, ← wo_length_iff, ← wo_length_iff]
  omega
def zeroSp : TSpace := ([], [])
def dropR (x : TSpace) (n : ByteArray) : TSpace × Int :=
  if spaceCode x ≠ 0 then (zeroSp, 1) else if ¬ NameOk n then (zeroSp, 2) else if lies x n then (withoutR x n, 0) else (zeroSp, 4)
theorem szL_filter {α : Type} (f : α → Nat) (p : α → Bool) (l : List α) : szL f (l.filter p) ≤ szL f l := by
  induction l with
  | nil => exact Nat.le_refl _
  | cons x l ih =>
    rw [List.filter_cons]
    split
    · rw [szL_cons', szL_cons']; omega
    · rw [szL_cons']; omega
theorem withoutR_sz (x : TSpace) (n : ByteArray) : Mk.sz (withoutR x n) ≤ Mk.sz x := by
  have h1 : szL Mk.sz (wo n x.1) ≤ szL Mk.sz x.1 := szL_filter _ _ _
  have h2 : szL Mk.sz (wo n x.2) ≤ szL Mk.sz x.2 := szL_filter _ _ _
  show szL Mk.sz (wo n x.1) + szL Mk.sz (wo n x.2) ≤ szL Mk.sz x.1 + szL Mk.sz x.2
  omega
theorem dropR_sz (x : TSpace) (n : ByteArray) : Mk.sz (dropR x n).1 ≤ Mk.sz x := by
  have h := withoutR_sz x n
  have h0 : Mk.sz zeroSp = 0 := rfl
  unfold dropR
  split
  · show Mk.sz zeroSp ≤ _; omega
  · split
    · show Mk.sz zeroSp ≤ _; omega
    · split
      · exact h
      · show Mk.sz zeroSp ≤ _; omega
theorem Acc.lt {α : Type} [Dat α] {lo : Nat} {A : AH} {s : Sl} {l : List α} {G : List Nat} (h : Acc lo A s l G) (hl : l ≠ []) : s.nl = false ∧ lo ≤ s.b ∧ s.b < A.size := by
  cases h with
  | nil => exact absurd rfl hl
  | empty b o => exact absurd rfl hl
  | own h1 h2 h3 h4 h5 h6 h7 => exact ⟨rfl, h1, h2⟩
theorem mem_sz {l : List TTarget} {t : TTarget} (h : t ∈ l) : t.2.length ≤ szL Mk.sz l := by
  obtain ⟨i, hi, rfl⟩ := List.mem_iff_getElem.1 h
  have h1 := szL_get Mk.sz l i hi
  have h2 := szL_length Mk.sz l[i].2
  have e : Mk.sz l[i] = l[i].1.size + szL Mk.sz l[i].2 := rfl
  omega
end Go.AM
