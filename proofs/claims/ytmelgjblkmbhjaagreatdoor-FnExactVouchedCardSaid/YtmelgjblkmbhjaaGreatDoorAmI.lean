/- Plain Lean: what the marks of the exact laws are. -/
import Derived.Test.YtmelgjblkmbhjaaGreatDoorAmH
namespace Go.AM
open Go
/-- The digits of a number, ahead of a text. -/
def mkGo (n : Nat) (s : ByteArray) : ByteArray := if n = 0 then s else mkGo (n / 10) (⟨#[UInt8.ofNat (48 + n % 10)]⟩ ++ s)
termination_by n
decreasing_by omega
/-- The mark of number k. -/
def mkText (k : Int) : ByteArray := if k ≤ 0 then ⟨#[109, 48]⟩ else ⟨#[109]⟩ ++ mkGo k.toNat ByteArray.empty
theorem mkGo_size (n : Nat) (s : ByteArray) : (mkGo n s).size ≤ n + s.size := by
  induction n using Nat.strongRecOn generalizing s with
  | _ n ih =>
    unfold mkGo
    split
    · omega
    · refine Nat.le_trans (ih _ (by omega) _) ?_
      have : (ByteArray.mk #[UInt8.ofNat (48 + n % 10)] ++ s).size = 1 + s.size := by
        rw [ByteArray.size_append]; rfl
      omega
theorem mkText_size (k : Int) (h : k < 1152921504606846976) : (mkText k).size < BIG := by
  unfold mkText
  split
  · show 2 < BIG; unfold BIG; omega
  · rw [ByteArray.size_append]
    have := mkGo_size k.toNat ByteArray.empty
    have e1 : (ByteArray.mk #[109]).size = 1 := rfl
    have e2 : ByteArray.empty.size = 0 := rfl
    unfold BIG
    omega
def mkStrs (k : Int) (n : Nat) : List ByteArray := (List.range n).map fun (i : Nat) => mkText (k + i)
theorem mkStrs_length (k : Int) (n : Nat) : (mkStrs k n).length = n := by simp [mkStrs]
theorem mkStrs_get (k : Int) (n i : Nat) (h : i < (mkStrs k n).length) : (mkStrs k n)[i] = mkText (k + i) := by simp [mkStrs]
theorem mkStrs_succ (k : Int) (n : Nat) : mkStrs k (n + 1) = mkStrs k n ++ [mkText (k + n)] := by simp [mkStrs, List.range_succ]
/-- What is left of a measure. -/
def szR (left total : Int) : Int := if left - total < 0 then -1 else left - total
def szL {α : Type} (f : α → Nat) (l : List α) : Nat := l.length + (l.map f).sum
theorem szL_append {α : Type} (f : α → Nat) (l k : List α) : szL f (l ++ k) = szL f l + szL f k := by
  simp only [szL, List.length_append, List.map_append, List.sum_append]; omega
theorem szL_take_succ {α : Type} (f : α → Nat) (l : List α) (i : Nat) (h : i < l.length) : szL f (l.take (i + 1)) = szL f (l.take i) + 1 + f l[i] := by
  rw [List.take_succ_eq_append_getElem h, szL_append]
  simp [szL]
  omega
theorem szL_take_le {α : Type} (f : α → Nat) (l : List α) (i : Nat) : szL f (l.take i) + (l.length - i) ≤ szL f l := by
  have h := szL_append f (l.take i) (l.drop i)
  rw [List.take_append_drop] at h
  have : l.length - i ≤ szL f (l.drop i) := by simp only [szL, List.length_drop]; omega
  omega
theorem szL_nil {α : Type} (f : α → Nat) : szL f ([] : List α) = 0 := rfl

end Go.AM
