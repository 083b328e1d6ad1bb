import Derived.Test.YtjlbcofopapajaaDoorAmTX
import Derived.Test.YtjlbcofopapajaaDoorAmSD
namespace Go.AM
open Go
set_option linter.all false
def hexB (n : Nat) : UInt8 := if n < 10 then UInt8.ofNat (48 + n) else UInt8.ofNat (87 + n)
def hexL : List UInt8 := [48, 49, 50, 51, 52, 53, 54, 55, 56, 57, 97, 98, 99, 100, 101, 102]
theorem hexL_get : ∀ n, n < 16 → hexL[n]? = some (hexB n) := by decide
def plainB (c : UInt8) : Prop := 32 ≤ c.toNat ∧ c.toNat ≤ 126 ∧ c.toNat ≠ 34 ∧ c.toNat ≠ 92
instance (c : UInt8) : Decidable (plainB c) := by unfold plainB; infer_instance
def qB (c : UInt8) : List UInt8 := if plainB c then [c] else [92, hexB (c.toNat / 16), hexB (c.toNat % 16)]
def qL : List UInt8 → List UInt8
 | [] => []
 | c :: l => qB c ++ qL l
theorem qL_append : ∀ a b : List UInt8, qL (a ++ b) = qL a ++ qL b
 | [], _ => rfl
 | c :: a, b => by rw [List.cons_append, qL, qL, qL_append a b, List.append_assoc]
theorem qL_take_succ {l : List UInt8} {i : Nat} (h : i < l.length) : qL (l.take (i + 1)) = qL (l.take i) ++ qB l[i] := by
 rw [List.take_succ_eq_append_getElem h, qL_append]
 simp [qL]
theorem qB_len (c : UInt8) : (qB c).length ≤ 3 := by unfold qB; split <;> simp
theorem qL_len : ∀ l : List UInt8, (qL l).length ≤ 3 * l.length
 | [] => Nat.le_refl _
 | c :: l => by
   have h1 := qB_len c
   have h2 := qL_len l
   simp only [qL, List.length_append, List.length_cons]
   omega
def quoteS (s : ByteArray) : ByteArray := bs (34 :: (qL (ls s) ++ [34]))
theorem quoteS_size (s : ByteArray) : (quoteS s).size ≤ 3 * s.size + 2 := by
 have := qL_len (ls s)
 have h : (ls s).length = s.size := by show s.data.toList.length = s.data.size; simp
 unfold quoteS
 rw [bs_size]
 simp
 omega
set_option maxRecDepth 100000 in
theorem and15 : ∀ n : Nat, n < 256 → (IntKind.u8.wrap ((BitVec.ofInt IntKind.u8.bits (n : Int) &&& BitVec.ofInt IntKind.u8.bits 15).toNat : Int)) = ((n % 16 : Nat) : Int) := by decide
theorem shr4 (n : Nat) : ((n : Int)).fdiv (2 ^ min 4 IntKind.u8.bits) = ((n / 16 : Nat) : Int) := by
 rw [show (2 : Int) ^ min 4 IntKind.u8.bits = 16 from rfl, Int.fdiv_eq_ediv_of_nonneg _ (by decide)]; rfl
theorem and_eq {P : Program} {t : TypeId} {k : IntKind} {a b : Int} : aBin P .and t (.int k a) (.int k b) = some (.int k (k.wrap (BitVec.ofInt k.bits a &&& BitVec.ofInt k.bits b).toNat)) := by simp [aBin, aInt]
theorem hexIx {P : Program} {t : TypeId} (ht : tKind P t = some .str) (k : IntKind) {n : Nat} (h : n < 16) :
 aIndex P t (.string ⟨#[48, 49, 50, 51, 52, 53, 54, 55, 56, 57, 97, 98, 99, 100, 101, 102]⟩) (.int k (n : Int)) = some (.int .u8 (hexB n).toNat) := by
 have hd : (#[48, 49, 50, 51, 52, 53, 54, 55, 56, 57, 97, 98, 99, 100, 101, 102] : Array UInt8)[n]? = some (hexB n) := by
  have := hexL_get n h
  unfold hexL at this
  rw [← this]
  simp
 unfold aIndex
 simp only [ht]
 rw [if_pos (by omega), show ((n : Int)).toNat = n from Int.toNat_natCast n]
 simp only [hd, Option.map_some]
theorem opWord_le (op : Int) : (opWord op).size ≤ 6 := by
 have h : ∀ x ∈ opsL, x.1.size ≤ 6 := by decide
 unfold opWord opRow
 rw [List.getD_eq_getElem?_getD]
 cases hq : opsL[op.toNat]? with
 | none => decide
 | some x => exact h x (List.mem_of_getElem? hq)
def lineS (x : TIns) : ByteArray :=
 if opKd x.1 = 116 then opWord x.1 ++ ⟨#[32]⟩ ++ quoteS x.2.1 else if opKd x.1 = 0 then opWord x.1 else opWord x.1 ++ ⟨#[32]⟩ ++ decS x.2.2.toNat
end Go.AM
namespace Go.AM
open Go Go.RowKit
set_option linter.all false
def tagB (T : TypeId) : Nat := TAG + (2 * T + 1)
def tagU (U : TypeId) : Nat := TAG + 2 * U
inductive BldX (fC fS : FuncId) (T U : TypeId) (ro : Nat) (f : FuncId) (args : List Value) (A : AH) : ARes → AH → Prop
 | check {b : Nat} {p v : Value} (hf : f = fC) (ha : args = [.pointer (some ⟨b, 0, none⟩)]) (hb : A.get b = .cells [p, v] (tagB T)) (hp : p = .pointer none ∨ p = .pointer (some ⟨b, 0, none⟩)) (hro : ro ≤ b) :
  BldX fC fS T U ro f args A (.ret (.tuple #[])) (A.put b (.cells [.pointer (some ⟨b, 0, none⟩), v] (tagB T)))
 | str {b g : Nat} {p : Value} {s : ByteArray} (hf : f = fS) (ha : args = [.pointer (some ⟨b, 0, none⟩)]) (hb : A.get b = .cells [p, .slice (some ⟨g, 0, none⟩) s.size BIG] (tagB T)) (hg : A.get g = .cells (bytesOf s) (tagU U))
  (h1 : 1 ≤ s.size) (hlim : s.size < 4294967296) (hrg : ro ≤ g) : BldX fC fS T U ro f args A (.ret (.string s)) (A.put g .dead)
section
variable {P : Program} {ng ro base : Nat} {w0 : World} {m : Emb} {A : AH} {w : World}
end
end Go.AM
namespace Go.AM
open Go
set_option linter.all false
def BldV (T U : TypeId) (lo : Nat) (A : AH) (b : Nat) (F : List Nat) (s : ByteArray) : Prop :=
 b < A.size ∧ ∃ p v : Value, A.get b = .cells [p, v] (tagB T) ∧ (p = .pointer none ∨ p = .pointer (some ⟨b, 0, none⟩)) ∧
   ((s = ⟨#[]⟩ ∧ v = Sl.nil.v ∧ F = []) ∨ ∃ g, v = (Sl.mk false g 0 s.size BIG).v ∧ A.get g = .cells (bytesOf s) (tagU U) ∧ lo ≤ g ∧ g < A.size ∧ g ≠ b ∧ F = [g] ∧ 1 ≤ s.size)
def Wr (b : Nat) (C : AH) (F0 : List Nat) (A' : AH) (F : List Nat) : Prop := C.size ≤ A'.size ∧ (∀ x, x < C.size → x ≠ b → x ∉ F0 → A'.get x = C.get x) ∧ ∀ x ∈ F, x ∈ F0 ∨ C.size ≤ x
theorem Wr.refl (b : Nat) (C : AH) (F : List Nat) : Wr b C F C F := ⟨Nat.le_refl _, fun _ _ _ _ => rfl, fun _ h => .inl h⟩
theorem Wr.ext {b : Nat} {C A A' : AH} {F0 F : List Nat} (h : Wr b C F0 A F) (hE : Ext A A') : Wr b C F0 A' F :=
 ⟨Nat.le_trans h.1 hE.size, fun x h1 h2 h3 => (hE.get x (Nat.lt_of_lt_of_le h1 h.1)).trans (h.2.1 x h1 h2 h3), h.2.2⟩
theorem Wr.trans {b : Nat} {C A A' : AH} {F0 F F' : List Nat} (h : Wr b C F0 A F) (k : Wr b A F A' F') : Wr b C F0 A' F' := by
 refine ⟨Nat.le_trans h.1 k.1, fun x h1 h2 h3 => (k.2.1 x (Nat.lt_of_lt_of_le h1 h.1) h2 fun hm => ?_).trans (h.2.1 x h1 h2 h3), fun x hx => ?_⟩
 ·rcases h.2.2 x hm with h4 | h4
  ·exact h3 h4
  ·omega
 ·rcases k.2.2 x hx with h4 | h4
  ·exact h.2.2 x h4
  ·exact .inr (Nat.le_trans h.1 h4)
theorem Wr.start {b : Nat} {C A A' : AH} {F0 F : List Nat} (hE : Ext C A) (h : Wr b A F0 A' F) : Wr b C F0 A' F :=
 ⟨Nat.le_trans hE.size h.1, fun x h1 h2 h3 => (h.2.1 x (Nat.lt_of_lt_of_le h1 hE.size) h2 h3).trans (hE.get x h1), fun x hx => (h.2.2 x hx).imp id (Nat.le_trans hE.size)⟩
theorem Wr.low {b : Nat} {C A : AH} {F0 F : List Nat} (h : Wr b C F0 A F) (hb : ∀ x ∈ F0, b ≤ x) : ∀ x, x < b → x < C.size → A.get x = C.get x := fun x hx hc => h.2.1 x hc (by omega) fun hm => by have := hb x hm; omega
section
variable {P : Program} {ro lo b : Nat} {A A' : AH} {t T U : TypeId} {F : List Nat} {s : ByteArray}
theorem BldV.start (hb : b < A.size) (hg : A.get b = .cells [.pointer none, Sl.nil.v] (tagB T)) : BldV T U lo A b [] ⟨#[]⟩ := ⟨hb, _, _, hg, .inl rfl, .inl ⟨rfl, rfl, rfl⟩⟩
theorem BldV.frame (h : BldV T U lo A b F s) (hz : A.size ≤ A'.size) (hb : A'.get b = A.get b) (hF : ∀ x ∈ F, A'.get x = A.get x) : BldV T U lo A' b F s := by
 obtain ⟨h1, p, v, h2, h3, h4⟩ := h
 refine ⟨by omega, p, v, hb.trans h2, h3, h4.imp id ?_⟩
 rintro ⟨g, k1, k2, k3, k4, k5, rfl, k7⟩
 exact ⟨g, k1, (hF g (by simp)).trans k2, k3, by omega, k5, rfl, k7⟩
theorem BldV.ext (h : BldV T U lo A b F s) (hE : Ext A A') : BldV T U lo A' b F s := by
 refine h.frame hE.size (hE.get b h.1) fun x hx => ?_
 obtain ⟨_, p, v, _, _, h4⟩ := h
 rcases h4 with ⟨_, _, rfl⟩ | ⟨g, _, _, _, k4, _, rfl, _⟩
 ·cases hx
 ·obtain rfl : x = g := by simpa using hx
  exact hE.get _ k4
theorem BldV.foot (h : BldV T U lo A b F s) : ∀ x ∈ F, lo ≤ x ∧ x < A.size ∧ x ≠ b := by
 intro x hx
 obtain ⟨_, p, v, _, _, h4⟩ := h
 rcases h4 with ⟨_, _, rfl⟩ | ⟨g, _, _, k3, k4, k5, rfl, _⟩
 ·cases hx
 ·obtain rfl : x = g := by simpa using hx
  exact ⟨k3, k4, k5⟩
end
end Go.AM
namespace Go.AM
open Go
set_option linter.all false
theorem mostN_le2 (op : Int) : mostN op ≤ 2000 := by unfold mostN; split; omega; split <;> omega
theorem insB3 {x : TIns} (h : InsOk x) : 1 ≤ x.1 ∧ x.1 ≤ 15 ∧ x.2.1.size ≤ 2000 ∧ 0 ≤ x.2.2 ∧ x.2.2 ≤ 2000 := ⟨h.1, h.2.1, h.2.2.1, h.2.2.2.1, Int.le_trans h.2.2.2.2.1 (mostN_le2 _)⟩
end Go.AM
