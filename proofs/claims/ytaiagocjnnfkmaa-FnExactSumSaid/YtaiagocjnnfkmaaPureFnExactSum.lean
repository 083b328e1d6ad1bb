/- The law FnExactSum answers true for every text and every width: the program's Sum is the reference's. Conditions: none but those of the statement (the text's size within the model's reach). -/
import Derived.Test.YtaiagocjnnfkmaaPFnExactSumx1
namespace Go.Proofs.Ytaiagocjnnfkmaa.Pure
open Go.RowKit Go.Proofs.Ytaiagocjnnfkmaa.PFnExactSum Go.Proofs.YtaiagocjnnfkmaaW.PrintWords Go.Proofs.YtaiagocjnnfkmaaW.PrintLast

/-- The last n bytes of v, highest first, ahead of acc. -/
def digs : Nat → Int → List Int → List Int
  | 0, _, acc => acc
  | n + 1, v, acc => digs n (v / 256) ((v % 256) :: acc)

theorem u64_in {x : Int} (h0 : 0 ≤ x) (h1 : x < 18446744073709551616) : IntKind.u64.wrap x = x := by
  simp only [IntKind.wrap, IntKind.bits, IntKind.signed]
  simp only [Bool.false_and, Bool.false_eq_true, if_false]
  exact Int.emod_eq_of_lt h0 (by omega)
theorem u64_bd (x : Int) : 0 ≤ IntKind.u64.wrap x ∧ IntKind.u64.wrap x < 18446744073709551616 := by
  simp only [IntKind.wrap, IntKind.bits, IntKind.signed]
  simp only [Bool.false_and, Bool.false_eq_true, if_false]
  omega

theorem spec_tail (w : Int) (hw : w ≤ 8) (d : Nat) : ∀ (k : Nat) (v : Int) (out : List Int) (i : Int), 0 ≤ i → i ≤ w → w - i = d → d < k → 0 ≤ v → v < 18446744073709551616 → out.length + d ≤ 8 →
    spec_Sum.l1 k w v out i = some (strOfNums (digs d v out)) := by
  induction d with
  | zero =>
    intro k v out i h0 h1 hd hk _ _ _
    obtain ⟨k, rfl⟩ : ∃ m, k = m + 1 := ⟨k - 1, by omega⟩
    simp only [spec_Sum.l1]; rw [if_neg (by omega)]; rfl
  | succ d ih =>
    intro k v out i h0 h1 hd hk hv0 hv1 hl
    obtain ⟨k, rfl⟩ : ∃ m, k = m + 1 := ⟨k - 1, by omega⟩
    have e1 : Int.tmod v 256 % 256 = v % 256 := by rw [Int.tmod_eq_emod_of_nonneg hv0]; omega
    have e2 : IntKind.u64.wrap (Int.tdiv v 256) = v / 256 := by rw [Int.tdiv_eq_ediv_of_nonneg hv0]; exact u64_in (by omega) (by omega)
    have e3 : wrap64 (i + 1) = i + 1 := by unfold wrap64; omega
    simp only [spec_Sum.l1]; rw [if_pos (by omega)]; simp only [Option.bind_some]
    rw [if_pos (by simp; omega), e1, e2, e3]
    exact ih k (v / 256) _ (i + 1) (by omega) (by omega) (by omega) (by omega) (by omega) (by omega) (by simp; omega)

theorem impl_tail (d : Nat) : ∀ (k : Nat) (v : Int) (buf : List Int) (i : Int), i + 1 = d → d < k → d ≤ buf.length → buf.length ≤ 8 → 0 ≤ v → v < 18446744073709551616 →
    impl_Sum.l1 k v buf i = some (strOfNums (digs d v (buf.drop d))) := by
  induction d with
  | zero =>
    intro k v buf i hd hk _ _ _ _
    obtain ⟨k, rfl⟩ : ∃ m, k = m + 1 := ⟨k - 1, by omega⟩
    simp only [impl_Sum.l1]; rw [if_neg (by omega)]; rfl
  | succ d ih =>
    intro k v buf i hd hk hl h8 hv0 hv1
    obtain ⟨k, rfl⟩ : ∃ m, k = m + 1 := ⟨k - 1, by omega⟩
    have e3 : wrap64 (i - 1) = i - 1 := by unfold wrap64; omega
    have e4 : i.toNat = d := by omega
    simp only [impl_Sum.l1]; rw [if_pos (by omega), if_pos (by omega), if_pos (by omega), e3, e4]
    rw [ih k (v / 256) _ (i - 1) (by omega) (by omega) (by simp; omega) (by simpa using h8) (by omega) (by omega)]
    have hlt : d < buf.length := by omega
    have e5 : (buf.set d (v % 256)).drop d = (v % 256) :: buf.drop (d + 1) := by
      rw [List.drop_eq_getElem_cons (by simpa using hlt)]
      simp [List.drop_set]
    rw [e5]; rfl

theorem both (s : ByteArray) (w : Int) (hs : s.size ≤ 140737488351232) (h1 : 1 ≤ w) (h8 : w ≤ 8) (d : Nat) :
    ∀ (k : Nat) (v i : Int), 0 ≤ i → i ≤ s.size → (s.size : Int) - i = d → d + 10 < k → 0 ≤ v → v < 18446744073709551616 →
    ∃ r, spec_Sum.l0 k s w v i = some r ∧ impl_Sum.l0 k s w v i = some r := by
  induction d with
  | zero =>
    intro k v i h0 hi hd hk hv0 hv1
    obtain ⟨k, rfl⟩ : ∃ m, k = m + 1 := ⟨k - 1, by omega⟩
    refine ⟨strOfNums (digs w.toNat v []), ?_, ?_⟩
    · simp only [spec_Sum.l0]; rw [if_neg (by omega)]
      exact spec_tail w h8 w.toNat k v [] 0 (by omega) (by omega) (by omega) (by omega) hv0 hv1 (by simp; omega)
    · have e3 : wrap64 (w - 1) = w - 1 := by unfold wrap64; omega
      simp only [impl_Sum.l0]; rw [if_neg (by omega), if_pos (by omega), if_pos (by omega), e3]
      rw [impl_tail w.toNat k v _ (w - 1) (by omega) (by omega) (by simp) (by simp; omega) hv0 hv1]
      simp
  | succ d ih =>
    intro k v i h0 hi hd hk hv0 hv1
    obtain ⟨k, rfl⟩ : ∃ m, k = m + 1 := ⟨k - 1, by omega⟩
    have e3 : wrap64 (i + 1) = i + 1 := by unfold wrap64; omega
    have b := u64_bd ((Go.bits .xor .u64 v (IntKind.u64.wrap (bt s i))) * 1099511628211)
    obtain ⟨r, hr, hr'⟩ := ih k _ (i + 1) (by omega) (by omega) (by omega) (by omega) b.1 b.2
    refine ⟨r, ?_, ?_⟩
    · simp only [spec_Sum.l0]; rw [if_pos (by omega), if_pos h0, e3]; exact hr
    · simp only [impl_Sum.l0]; rw [if_pos (by omega), if_pos h0, e3]; exact hr'

theorem FnExactSum : laws_FnExactSum.Pure := by
  intro s w hs hw
  by_cases hl : (s.size : Int) > 1048576
  · exact ⟨0, by unfold laws_FnExactSum.f; rw [if_pos hl]⟩
  · by_cases hw1 : w ≥ 1
    · by_cases hw8 : w ≤ 8
      · obtain ⟨r, h1, h2⟩ := both s w hs hw1 hw8 s.size (s.size + 11) 14695981039346656037 0 (by omega) (by omega) (by omega) (by omega) (by omega) (by omega)
        refine ⟨s.size + 11, ?_⟩
        unfold laws_FnExactSum.f spec_Sum.f impl_Sum.f spec_l1Width.f impl_isWidth.f
        rw [if_neg hl, if_pos hw1]
        simp only [hw8, decide_true, Option.bind_some, if_true]
        rw [h1, h2]; simp
      · refine ⟨0, ?_⟩
        unfold laws_FnExactSum.f spec_Sum.f impl_Sum.f spec_l1Width.f impl_isWidth.f
        rw [if_neg hl, if_pos hw1]
        simp [hw8]
    · refine ⟨0, ?_⟩
      unfold laws_FnExactSum.f spec_Sum.f impl_Sum.f spec_l1Width.f impl_isWidth.f
      rw [if_neg hl, if_neg hw1]
      simp

end Go.Proofs.Ytaiagocjnnfkmaa.Pure
