/- Plain texts: decimals, results in their form. -/
import Derived.Test.YtcdnlghlbljopaaDoorAmT1
namespace Go.AM
open Go
set_option linter.unusedVariables false
set_option linter.unusedSimpArgs false
/-- A number's decimal. -/
def decS (n : Nat) : ByteArray := if n < 10 then ⟨#[UInt8.ofNat (48 + n)]⟩ else decS (n / 10) ++ ⟨#[UInt8.ofNat (48 + n % 10)]⟩
termination_by n
decreasing_by omega
theorem decS_lt {n : Nat} (h : n < 10) : decS n = ⟨#[UInt8.ofNat (48 + n)]⟩ := by unfold decS; rw [if_pos h]
theorem decS_ge {n : Nat} (h : ¬ n < 10) : decS n = decS (n / 10) ++ ⟨#[UInt8.ofNat (48 + n % 10)]⟩ := by rw [decS]; rw [if_neg h]
theorem decS_size (n : Nat) : (decS n).size ≤ n + 1 := by
  induction n using Nat.strongRecOn with
  | _ n ih =>
    by_cases h : n < 10
    · rw [decS_lt h]; show 1 ≤ _; omega
    · rw [decS_ge h, ByteArray.size_append]
      have := ih (n / 10) (by omega)
      show _ + 1 ≤ _
      omega
/-- A result in its form. -/
def formBad (c : Int) (t : ByteArray) (l : List ByteArray) : Prop := c < 0 ∨ 5 < c ∨ 2000 < t.size ∨ l ≠ []
instance (c : Int) (t : ByteArray) (l : List ByteArray) : Decidable (formBad c t l) := by unfold formBad; infer_instance
def formR (c : Int) (t : ByteArray) (l : List ByteArray) : ByteArray := if formBad c t l then ⟨#[]⟩ else ⟨#[UInt8.ofNat (48 + c.toNat), 58]⟩ ++ t
theorem formR_bad {c : Int} {t : ByteArray} {l : List ByteArray} (h : formBad c t l) : formR c t l = ⟨#[]⟩ := if_pos h
theorem formR_ok {c : Int} {t : ByteArray} {l : List ByteArray} (h : ¬ formBad c t l) : formR c t l = ⟨#[UInt8.ofNat (48 + c.toNat), 58]⟩ ++ t := if_neg h
theorem ba_ext {a b : ByteArray} (h : a.data.toList = b.data.toList) : a = b := by
  cases a; cases b; congr 1; exact Array.toList_inj.1 h
theorem ba_app (a b : ByteArray) : (a ++ b).data.toList = a.data.toList ++ b.data.toList := by
  have : (a ++ b).data = a.data ++ b.data := ByteArray.data_append
  rw [this, Array.toList_append]
theorem ba_assoc (a b c : ByteArray) : a ++ b ++ c = a ++ (b ++ c) := ba_ext (by simp [ba_app])
/-! ### Sums -/
def fnvStep (h : Int) (b : UInt8) : Int := IntKind.u64.wrap (IntKind.u64.wrap ((BitVec.ofInt IntKind.u64.bits h ^^^ BitVec.ofInt IntKind.u64.bits b.toNat).toNat) * 1099511628211)
def fnv (l : List UInt8) : Int := l.foldl fnvStep 14695981039346656037
theorem wrap_u64 (n : Int) : 0 ≤ IntKind.u64.wrap n ∧ IntKind.u64.wrap n ≤ 18446744073709551615 := by
  have : IntKind.u64.wrap n = n % 18446744073709551616 := by
    unfold IntKind.wrap
    rfl
  omega
theorem wrap_u8 (n : Int) : IntKind.u8.wrap n = n % 256 := by
  unfold IntKind.wrap
  rfl
theorem fnv_range (l : List UInt8) : 0 ≤ fnv l ∧ fnv l ≤ 18446744073709551615 := by
  unfold fnv
  have : ∀ (l : List UInt8) (h : Int), (0 ≤ h ∧ h ≤ 18446744073709551615) → 0 ≤ l.foldl fnvStep h ∧ l.foldl fnvStep h ≤ 18446744073709551615 := by
    intro l
    induction l with
    | nil => intro h hh; exact hh
    | cons b l ih => intro h _; exact ih _ (wrap_u64 _)
  exact this l _ (by omega)
theorem fnv_take (s : ByteArray) (i : Nat) (h : i < s.size) : fnv ((ls s).take (i + 1)) = fnvStep (fnv ((ls s).take i)) (bget s i) := by
  rw [ls_take_succ s i h]
  simp [fnv, List.foldl_append]
/-- The last bytes of a number, the greatest first. -/
def lowB (v : Nat) : Nat → List UInt8
  | 0 => []
  | w + 1 => lowB (v / 256) w ++ [UInt8.ofNat (v % 256)]
theorem lowB_length (v w : Nat) : (lowB v w).length = w := by
  induction w generalizing v with
  | zero => rfl
  | succ w ih => simp [lowB, ih]
/-- One byte more in front. -/
theorem lowB_front (v : Nat) (w : Nat) : lowB v (w + 1) = UInt8.ofNat (v / 256 ^ w % 256) :: lowB v w := by
  induction w generalizing v with
  | zero => simp [lowB]
  | succ w ih =>
    rw [lowB, ih (v / 256)]
    conv => rhs; rw [lowB]
    rw [List.cons_append, Nat.div_div_eq_div_mul, show 256 * 256 ^ w = 256 ^ (w + 1) by rw [Nat.pow_succ, Nat.mul_comm]]
def isW (w : Int) : Prop := 1 ≤ w ∧ w ≤ 8
instance (w : Int) : Decidable (isW w) := by unfold isW; infer_instance
/-- The sum of a text. -/
def sumS (t : ByteArray) (w : Int) : ByteArray := if isW w then bs (lowB (fnv (ls t)).toNat w.toNat) else ⟨#[]⟩
theorem sumS_size (t : ByteArray) {w : Int} (h : isW w) : (sumS t w).size = w.toNat := by
  rw [sumS, if_pos h, bs_size, lowB_length]
theorem sumS_le (t : ByteArray) (w : Int) : (sumS t w).size ≤ 8 := by
  by_cases h : isW w
  · rw [sumS_size t h]; unfold isW at h; omega
  · rw [sumS, if_neg h]; show 0 ≤ 8; omega
end Go.AM
