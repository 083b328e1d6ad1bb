/- Plain: the order of texts; names, records, stores: which are valid. -/
import Derived.Test.YtcdnlghlbljopaaDoorAmU
namespace Go.AM
open Go
set_option linter.unusedVariables false
set_option linter.unusedSimpArgs false
/-! ### The order of texts -/
def slt (a b : ByteArray) : Prop := Op.bytesLess a.toList b.toList = true
instance (a b : ByteArray) : Decidable (slt a b) := by unfold slt; infer_instance
theorem bl_irrefl : ∀ l : List UInt8, Op.bytesLess l l = false
  | [] => rfl
  | a :: l => by simp [Op.bytesLess, bl_irrefl l]
theorem bl_trans : ∀ {a b c : List UInt8}, Op.bytesLess a b = true → Op.bytesLess b c = true → Op.bytesLess a c = true
  | _, [], _, h, _ => by unfold Op.bytesLess at h; cases h
  | _, _ :: _, [], _, k => by unfold Op.bytesLess at k; cases k
  | [], _ :: _, _ :: _, _, _ => rfl
  | a :: x, b :: y, c :: z, h, k => by
    simp only [Op.bytesLess, Bool.or_eq_true, decide_eq_true_eq, Bool.and_eq_true, beq_iff_eq] at h k ⊢
    rcases h with h | ⟨h1, h2⟩ <;> rcases k with k | ⟨k1, k2⟩
    · exact .inl (UInt8.lt_trans h k)
    · subst k1; exact .inl h
    · subst h1; exact .inl k
    · exact .inr ⟨h1.trans k1, bl_trans h2 k2⟩
theorem bl_total : ∀ {a b : List UInt8}, Op.bytesLess a b = false → Op.bytesLess b a = false → a = b
  | [], [], _, _ => rfl
  | [], _ :: _, h, _ => by cases h
  | _ :: _, [], _, k => by cases k
  | a :: x, b :: y, h, k => by
    simp only [Op.bytesLess, Bool.or_eq_false_iff, decide_eq_false_iff_not, Bool.and_eq_false_iff, beq_eq_false_iff_ne] at h k
    have hab : a = b := by
      have h1 := h.1
      have k1 := k.1
      rw [UInt8.not_lt] at h1 k1
      exact UInt8.le_antisymm k1 h1
    subst hab
    have := bl_total (a := x) (b := y) (by rcases h.2 with h | h; exact absurd rfl h; exact h) (by rcases k.2 with h | h; exact absurd rfl h; exact h)
    rw [this]
theorem slt_irrefl (a : ByteArray) : ¬ slt a a := by unfold slt; rw [bl_irrefl]; simp
theorem slt_trans {a b c : ByteArray} (h : slt a b) (k : slt b c) : slt a c := bl_trans h k
theorem slt_total {a b : ByteArray} (h : ¬ slt a b) (k : ¬ slt b a) : a = b := str_inj (bl_total (by simpa [slt] using h) (by simpa [slt] using k))
theorem slt_asymm {a b : ByteArray} (h : slt a b) : ¬ slt b a := fun k => slt_irrefl _ (slt_trans h k)
/-! ### Names -/
def NameB (b : UInt8) : Prop := 33 ≤ b.toNat ∧ b.toNat ≤ 126
instance (b : UInt8) : Decidable (NameB b) := by unfold NameB; infer_instance
def NameOk (s : ByteArray) : Prop := 1 ≤ s.size ∧ s.size ≤ 60 ∧ ∀ b ∈ ls s, NameB b
instance (s : ByteArray) : Decidable (NameOk s) := by unfold NameOk; infer_instance
theorem ls_all_succ {p : UInt8 → Prop} {s : ByteArray} {i : Nat} (hi : i < s.size) : (∀ x ∈ (ls s).take (i + 1), p x) ↔ (∀ x ∈ (ls s).take i, p x) ∧ p (bget s i) := by
  rw [all_take_succ (by rw [ls_length]; exact hi), bget_ls s i hi]
theorem bget_mem (s : ByteArray) (i : Nat) (h : i < s.size) : bget s i ∈ ls s := by
  rw [← bget_ls s i h]; exact List.getElem_mem _
theorem ls_take_all (s : ByteArray) : (ls s).take s.size = ls s := by rw [← ls_length s, List.take_length]
/-! ### Records and stores -/
def GlanceOk (g : TGlance) (w : Int) : Prop := NameOk g.1 ∧ (g.2.2.size : Int) = w
instance (g : TGlance) (w : Int) : Decidable (GlanceOk g w) := by unfold GlanceOk; infer_instance
def RecOk (r : TRecord) (w : Int) : Prop := ProgOk r.1 ∧ r.2.1.length ≤ 200 ∧ (r.2.2.size : Int) = w ∧ ∀ g ∈ r.2.1, GlanceOk g w
instance (r : TRecord) (w : Int) : Decidable (RecOk r w) := by unfold RecOk; infer_instance
/-- Each text's sum lies above the one's ahead of it. -/
def Rising (w : Int) : List ByteArray → Prop
  | [] => True
  | [_] => True
  | a :: b :: r => slt (sumS a w) (sumS b w) ∧ Rising w (b :: r)
instance Rising.dec (w : Int) : (l : List ByteArray) → Decidable (Rising w l)
  | [] => isTrue trivial
  | [_] => isTrue trivial
  | a :: b :: r => by unfold Rising; exact @instDecidableAnd _ _ _ (Rising.dec w (b :: r))
theorem Rising.snoc {w : Int} : ∀ {l : List ByteArray} {a b : ByteArray}, Rising w (l ++ [a] ++ [b]) ↔ Rising w (l ++ [a]) ∧ slt (sumS a w) (sumS b w)
  | [], a, b => by simp [Rising]
  | [x], a, b => by simp [Rising, and_comm]
  | x :: y :: r, a, b => by
    have := Rising.snoc (w := w) (l := y :: r) (a := a) (b := b)
    simp only [List.cons_append, Rising] at this ⊢
    rw [this, and_assoc]
theorem Rising.take {w : Int} : ∀ {l : List ByteArray} (i : Nat), Rising w l → Rising w (l.take i)
  | [], i, h => by simpa using h
  | [x], 0, h => trivial
  | [x], i + 1, h => by simpa using h
  | x :: y :: r, 0, h => trivial
  | x :: y :: r, 1, h => trivial
  | x :: y :: r, i + 2, h => by
    have := Rising.take (w := w) (i + 1) h.2
    simp only [List.take_succ_cons, Rising] at this ⊢
    exact ⟨h.1, this⟩
theorem Rising.step {w : Int} {l : List ByteArray} {i : Nat} (hi : i + 1 < l.length) : Rising w (l.take (i + 2)) ↔ Rising w (l.take (i + 1)) ∧ slt (sumS l[i] w) (sumS l[i + 1] w) := by
  rw [List.take_succ_eq_append_getElem hi, List.take_succ_eq_append_getElem (by omega : i < l.length), Rising.snoc]
def lastSum (w : Int) (l : List ByteArray) : ByteArray := (l.getLast?.map fun t => sumS t w).getD ⟨#[]⟩
theorem lastSum_snoc (w : Int) (l : List ByteArray) (x : ByteArray) : lastSum w (l ++ [x]) = sumS x w := by simp [lastSum]
theorem riseStep {w : Int} {l : List ByteArray} {i : Nat} (hi : i < l.length) : Rising w (l.take (i + 1)) ↔ Rising w (l.take i) ∧ (i = 0 ∨ slt (lastSum w (l.take i)) (sumS l[i] w)) := by
  cases i with
  | zero => rw [List.take_succ_eq_append_getElem hi]; simp [Rising]
  | succ i =>
    rw [Rising.step hi, List.take_succ_eq_append_getElem (by omega : i < l.length), lastSum_snoc]
    simp
theorem sle_facts {a b : ByteArray} : (slt a b → Op.bytesLess b.toList a.toList = false ∧ ¬ b = a) ∧ (¬ slt a b → (Op.bytesLess b.toList a.toList || decide (b = a)) = true) := by
  refine ⟨fun h => ⟨by simpa [slt] using slt_asymm h, fun e => slt_irrefl b (by rw [e] at h ⊢; exact h)⟩, fun h => ?_⟩
  by_cases k : slt b a
  · have : Op.bytesLess b.toList a.toList = true := k
    simp [this]
  · simp [slt_total k h]
def StoreOk (s : TStore) : Prop := isW s.1 ∧ s.2.1.length ≤ 5000 ∧ s.2.2.length ≤ 2000 ∧ Rising s.1 s.2.1 ∧ (∀ t ∈ s.2.1, t.size ≤ 2002) ∧ ∀ r ∈ s.2.2, RecOk r s.1
instance (s : TStore) : Decidable (StoreOk s) := by unfold StoreOk; infer_instance
/-! ### Elements of lists -/
theorem SlR.glance {A : AH} {s : Sl} {l : List TGlance} {F : List Nat} (h : SlR A s l F) {i : Nat} (hi : i < l.length) : s.nl = false ∧ s.b < A.size ∧ i < s.len ∧
    rowK (s.o + i * 3) 3 (A.get s.b) = some [.string l[i].1, .bool l[i].2.1, .string l[i].2.2] ∧ l[i].1.size < 4611686018427387904 ∧ l[i].2.2.size < 4611686018427387904 := by
  obtain ⟨n1, b1, m1, i1, cs, Fi, c1, q1, _⟩ := h.row hi
  rw [aRow_eq] at c1
  obtain ⟨rfl, _, z1, z2⟩ := rep_Glance.1 q1
  exact ⟨n1, b1, i1, c1, big_lt z1, big_lt z2⟩
theorem SlR.record {A : AH} {s : Sl} {l : List TRecord} {F : List Nat} (h : SlR A s l F) {i : Nat} (hi : i < l.length) : s.nl = false ∧ s.b < A.size ∧ i < s.len ∧ ∃ s1 s2 G1 G2,
    rowK (s.o + i * 3) 3 (A.get s.b) = some [s1.v, s2.v, .string l[i].2.2] ∧ SlR A s1 l[i].1 G1 ∧ SlR A s2 l[i].2.1 G2 ∧ l[i].2.2.size < 4611686018427387904 ∧ (∀ b ∈ G1, b ∈ F) ∧ ∀ b ∈ G2, b ∈ F := by
  obtain ⟨n1, b1, m1, i1, cs, Fi, c1, q1, hF⟩ := h.row hi
  rw [aRow_eq] at c1
  obtain ⟨s1, s2, G1, G2, rfl, rfl, h1, h2, z1⟩ := rep_Record.1 q1
  exact ⟨n1, b1, i1, s1, s2, G1, G2, c1, h1, h2, big_lt z1, fun b hb => hF b (by simp [hb]), fun b hb => hF b (by simp [hb])⟩
end Go.AM
