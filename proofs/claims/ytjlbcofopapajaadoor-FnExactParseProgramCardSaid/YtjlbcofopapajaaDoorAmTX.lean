import Derived.Test.YtjlbcofopapajaaDoorAmM
namespace Go.AM
open Go
set_option linter.all false
abbrev TOp := ByteArray × UInt8 × Int × Int
def opsL : List TOp := [(⟨#[]⟩, 0, 0, 0), (⟨#[108, 105, 116]⟩, 116, 0, 1), (⟨#[99, 97, 116]⟩, 0, 2, 1), (⟨#[99, 117, 116]⟩, 110, 1, 1), (⟨#[114, 101, 115, 116]⟩, 110, 1, 1), (⟨#[119, 111, 114, 100]⟩, 110, 1, 1), (⟨#[115, 97, 109, 101]⟩, 0, 2, 1),
 (⟨#[100, 117, 112]⟩, 0, 1, 2), (⟨#[115, 119, 97, 112]⟩, 0, 2, 2), (⟨#[100, 114, 111, 112]⟩, 0, 1, 0), (⟨#[106, 117, 109, 112]⟩, 106, 0, 0), (⟨#[117, 110, 108, 101, 115, 115]⟩, 106, 1, 0), (⟨#[97, 115, 107]⟩, 0, 1, 1), (⟨#[104, 97, 115]⟩, 0, 1, 1),
 (⟨#[102, 97, 105, 108]⟩, 0, 1, 0), (⟨#[101, 110, 100]⟩, 0, 1, 0)]
def opRow (op : Int) : TOp := opsL.getD op.toNat (⟨#[]⟩, 0, 0, 0)
def opWord (op : Int) : ByteArray := (opRow op).1
def opKd (op : Int) : UInt8 := (opRow op).2.1
def opTake (op : Int) : Int := (opRow op).2.2.1
def opPut (op : Int) : Int := (opRow op).2.2.2
def Tab (g : Nat) (A : AH) : Prop := ∃ s F, A.get g = .cells [s.v] 1 ∧ g < A.size ∧ SlR A s opsL F
theorem Tab.ext {g : Nat} {A A' : AH} (h : Tab g A) (hE : Ext A A') : Tab g A' := by
 obtain ⟨s, F, h1, h2, h3⟩ := h
 exact ⟨s, F, (hE.get _ h2).trans h1, Nat.lt_of_lt_of_le h2 hE.size, h3.ext hE⟩
theorem Tab.at {g : Nat} {A : AH} (h : Tab g A) : ∃ (s : Sl) (c : List Value), A.get g = .cells [s.v] 1 ∧ g < A.size ∧ s.nl = false ∧ s.len = 16 ∧ s.b < A.size ∧ A.get s.b = .cells c 4 ∧ s.o + 64 ≤ c.length ∧
 ∀ op : Int, 0 ≤ op → op < 16 → c[s.o + op.toNat * 4]? = some (.string (opWord op)) ∧ c[s.o + op.toNat * 4 + 1]? = some (.int .u8 (opKd op).toNat) ∧ c[s.o + op.toNat * 4 + 2]? = some (.int .i64 (opTake op)) ∧ c[s.o + op.toNat * 4 + 3]? = some (.int .i64 (opPut op)) ∧
   rowK (s.o + op.toNat * 4) 4 (.cells c 4) = some [.string (opWord op), .int .u8 (opKd op).toNat, .int .i64 (opTake op), .int .i64 (opPut op)] := by
 obtain ⟨s, F, h1, h2, h3⟩ := h
 have hl : s.len = 16 := h3.len
 obtain ⟨n1, b1, c, _, g1, g2, _, _, _, _⟩ := h3.at (i := 0) (by decide)
 refine ⟨s, c, h1, h2, n1, hl, b1, g1, by rw [hl] at g2; exact g2, fun op h0 h16 => ?_⟩
 have hi : op.toNat < opsL.length := by show op.toNat < 16; omega
 obtain ⟨_, _, c', Fi, k1, k2, k3, k4, _, _⟩ := h3.at hi
 rw [g1] at k1
 cases k1
 have e : opsL[op.toNat] = opRow op := by simp [opRow, List.getD, hi]
 rw [e] at k4
 obtain ⟨_, _, _, _, e1, _, ⟨rfl, _, _⟩, _, _, _, _, rfl, _, ⟨rfl, _⟩, _, _, _, _, rfl, _, ⟨rfl, _⟩, rfl, _⟩ := k4
 have e1 : (c.drop (s.o + op.toNat * 4)).take 4 = [.string (opWord op), .int .u8 (opKd op).toNat, .int .i64 (opTake op), .int .i64 (opPut op)] := e1
 have k3 : s.o + op.toNat * 4 + 4 ≤ c.length := k3
 refine ⟨by simpa using row_get e1 0 (by omega), by simpa using row_get e1 1 (by omega), by simpa using row_get e1 2 (by omega), by simpa using row_get e1 3 (by omega), ?_⟩
 unfold rowK
 simp only [if_pos k3, e1]
theorem Fun1.int {P : Program} : Fun1 (fun H (d : DataW H) (v : Int) => d = .lit (.int .i64 v)) := fun H d x y h k => by rw [h] at k; cases k; rfl
def TOpD (H : Type) (ds : List (DataW H)) (x : TOp) : Prop := ds = [.lit (.string x.1.data.toList), .lit (.int .u8 x.2.1.toNat), .lit (.int .i64 x.2.2.1), .lit (.int .i64 x.2.2.2)]
theorem TOpD.fun {H : Type} {ds : List (DataW H)} {x y : TOp} (h : TOpD H ds x) (k : TOpD H ds y) : x = y := by
 obtain ⟨⟨⟨a⟩⟩, b, c, d⟩ := x
 obtain ⟨⟨⟨a'⟩⟩, b', c', d'⟩ := y
 unfold TOpD at h k
 rw [h] at k
 simp only [List.cons.injEq, DataW.lit.injEq, Lit.string.injEq, Lit.int.injEq, true_and, and_true] at k
 obtain ⟨k1, k2, k3, k4⟩ := k
 have k2' : b = b' := by
  have : b.toNat = b'.toNat := by omega
  exact UInt8.toNat_inj.1 this
 subst k1 k2' k3 k4
 rfl
theorem AllD.map {H α : Type} {isd : DataW H → α → Prop} {l : List (DataW H)} : ∀ {ds : List (DataW H)} {xs ys : List α}, (∀ d x y, isd d x → isd d y → x = y) → AllD isd ds xs → AllD isd ds ys → xs = ys
 | [], [], [], _, _, _ => rfl
 | d :: ds, x :: xs, y :: ys, hf, h, k => by rw [hf d x y h.1 k.1, AllD.map (l := l) hf h.2 k.2]
 | [], [], _ :: _, _, _, k => k.elim
 | [], _ :: _, _, _, h, _ => h.elim
 | _ :: _, [], _, _, h, _ => h.elim
 | _ :: _, _ :: _, [], _, _, k => k.elim
theorem AllD.mono {H α : Type} {isd isd2 : DataW H → α → Prop} (hi : ∀ d x, isd d x → isd2 d x) : ∀ {ds : List (DataW H)} {xs : List α}, AllD isd ds xs → AllD isd2 ds xs
 | [], [], _ => trivial
 | d :: ds, x :: xs, h => ⟨hi d x h.1, AllD.mono hi h.2⟩
 | [], _ :: _, h => h.elim
 | _ :: _, [], h => h.elim
theorem flat_foot {A : AH} {s : Sl} {l : List TOp} {F : List Nat} (h : SlR A s l F) : ∀ b ∈ F, A.get b ≠ .dead := by
 cases h with
 | nil _ _ hF => subst hF; simp
 | empty _ _ _ _ hF => subst hF; simp
 | inB h =>
   obtain ⟨_, _, _, _, c, cs, G, h5, _, _, h8, rfl⟩ := h
   have hG : ∀ {l : List TOp} {cs : List Value} {G : List Nat}, Reps A l cs G → G = [] := by
    intro l cs G h
    induction h with
    | nil => rfl
    | cons h k ih =>
      obtain ⟨_, _, _, _, _, rfl, ⟨_, rfl, _⟩, _, _, _, _, _, rfl, ⟨_, rfl⟩, _, _, _, _, _, rfl, ⟨_, rfl⟩, _, rfl⟩ := h
      simpa using ih
   rw [hG h8]
   intro b hb
   rcases List.mem_cons.1 hb with rfl | hb
   ·rw [h5]; intro e; cases e
   ·cases hb
def mostN (op : Int) : Int := if opKd op = 110 then 2000 else if opKd op = 106 then 200 else 0
def InsOk (x : TIns) : Prop := 1 ≤ x.1 ∧ x.1 ≤ 15 ∧ x.2.1.size ≤ 2000 ∧ 0 ≤ x.2.2 ∧ x.2.2 ≤ mostN x.1 ∧ (opKd x.1 = 116 ∨ x.2.1 = ByteArray.empty)
instance (x : TIns) : Decidable (InsOk x) := by unfold InsOk; infer_instance
def ProgOk (p : TProgram) : Prop := 1 ≤ p.length ∧ p.length ≤ 200 ∧ ∀ x ∈ p, InsOk x
instance (p : TProgram) : Decidable (ProgOk p) := by unfold ProgOk; infer_instance
def opNo (op : Int) : Int := if opKd op = 116 then 1 else if opKd op = 110 then 2 else if opKd op = 106 then 3 else 0
theorem op_cases {op : Int} (h1 : 1 ≤ op) (h2 : op ≤ 15) : op = 1 ∨ op = 2 ∨ op = 3 ∨ op = 4 ∨ op = 5 ∨ op = 6 ∨ op = 7 ∨ op = 8 ∨ op = 9 ∨ op = 10 ∨ op = 11 ∨ op = 12 ∨ op = 13 ∨ op = 14 ∨ op = 15 := by omega
theorem opWord_ne {op : Int} (h1 : 1 ≤ op) (h2 : op ≤ 15) : opWord op ≠ ⟨#[]⟩ := by
 rcases op_cases h1 h2 with rfl | rfl | rfl | rfl | rfl | rfl | rfl | rfl | rfl | rfl | rfl | rfl | rfl | rfl | rfl <;> (intro h; have := congrArg (·.size) h; revert this; decide)
theorem opRow_out {op : Int} (h : ¬ (1 ≤ op ∧ op ≤ 15)) : opRow op = (⟨#[]⟩, 0, 0, 0) := by
 unfold opRow
 by_cases h0 : op ≤ 0
 ·have : op.toNat = 0 := by omega
  rw [this]; rfl
 ·rw [List.getD_eq_getElem?_getD, List.getElem?_eq_none (by show 16 ≤ op.toNat; omega)]
  rfl
theorem kd_cases (op : Int) : (((opKd op).toNat : Int) = 116 ∧ mostN op = 0 ∧ opNo op = 1) ∨ (((opKd op).toNat : Int) = 110 ∧ mostN op = 2000 ∧ opNo op = 2) ∨ (((opKd op).toNat : Int) = 106 ∧ mostN op = 200 ∧ opNo op = 3) ∨ (((opKd op).toNat : Int) = 0 ∧ mostN op = 0 ∧ opNo op = 0) := by
 by_cases h : 1 ≤ op ∧ op ≤ 15
 ·rcases op_cases h.1 h.2 with rfl | rfl | rfl | rfl | rfl | rfl | rfl | rfl | rfl | rfl | rfl | rfl | rfl | rfl | rfl <;> decide
 ·simp [mostN, opNo, opKd, opRow_out h]
theorem kd_text (op : Int) : opKd op = 116 ↔ ((opKd op).toNat : Int) = 116 := by
 constructor
 ·intro h; rw [h]; rfl
 ·intro h
  have h' : (opKd op).toNat = 116 := by omega
  exact UInt8.toNat_inj.1 h'
theorem InsOk_iff (x : TIns) : InsOk x ↔ 1 ≤ x.1 ∧ x.1 ≤ 15 ∧ x.2.1.size ≤ 2000 ∧ 0 ≤ x.2.2 ∧ x.2.2 ≤ mostN x.1 ∧ (((opKd x.1).toNat : Int) = 116 ∨ x.2.1 = ByteArray.empty) := by
 unfold InsOk
 rw [kd_text]
end Go.AM
namespace Go.AM
open Go
set_option linter.all false
def decS (n : Nat) : ByteArray := if n < 10 then ⟨#[UInt8.ofNat (48 + n)]⟩ else decS (n / 10) ++ ⟨#[UInt8.ofNat (48 + n % 10)]⟩
termination_by n
decreasing_by omega
theorem decS_lt {n : Nat} (h : n < 10) : decS n = ⟨#[UInt8.ofNat (48 + n)]⟩ := by unfold decS; rw [if_pos h]
theorem decS_ge {n : Nat} (h : ¬ n < 10) : decS n = decS (n / 10) ++ ⟨#[UInt8.ofNat (48 + n % 10)]⟩ := by rw [decS]; rw [if_neg h]
theorem decS_size (n : Nat) : (decS n).size ≤ n + 1 := by
 induction n using Nat.strongRecOn with
 | _ n ih =>
   by_cases h : n < 10
   ·rw [decS_lt h]; show 1 ≤ _; omega
   ·rw [decS_ge h, ByteArray.size_append]
    have := ih (n / 10) (by omega)
    show _ + 1 ≤ _
    omega
def formBad (c : Int) (t : ByteArray) (l : List ByteArray) : Prop := c < 0 ∨ 5 < c ∨ 2000 < t.size ∨ l ≠ []
instance (c : Int) (t : ByteArray) (l : List ByteArray) : Decidable (formBad c t l) := by unfold formBad; infer_instance
def fnvStep (h : Int) (b : UInt8) : Int := IntKind.u64.wrap (IntKind.u64.wrap ((BitVec.ofInt IntKind.u64.bits h ^^^ BitVec.ofInt IntKind.u64.bits b.toNat).toNat) * 1099511628211)
def fnv (l : List UInt8) : Int := l.foldl fnvStep 14695981039346656037
theorem wrap_u8 (n : Int) : IntKind.u8.wrap n = n % 256 := by
 unfold IntKind.wrap
 rfl
def lowB (v : Nat) : Nat → List UInt8
 | 0 => []
 | w + 1 => lowB (v / 256) w ++ [UInt8.ofNat (v % 256)]
def isW (w : Int) : Prop := 1 ≤ w ∧ w ≤ 8
instance (w : Int) : Decidable (isW w) := by unfold isW; infer_instance
def sumS (t : ByteArray) (w : Int) : ByteArray := if isW w then bs (lowB (fnv (ls t)).toNat w.toNat) else ⟨#[]⟩
end Go.AM
namespace Go.AM
open Go
set_option linter.all false
abbrev SMap := List (ByteArray × Value)
section
variable {P : Program} {ro : Nat} {A : AH} {t e : TypeId} {b : Nat} {es : SMap} {z : Value}
end
def other (w : Int) (pre : List ByteArray) (t : ByteArray) : Option ByteArray := pre.find? fun x => decide (sumS x w = sumS t w ∧ x ≠ t)
def NoClash (w : Int) (l : List ByteArray) : Prop := ∀ x ∈ l, ∀ y ∈ l, sumS x w = sumS y w → x = y
theorem NoClash.other {w : Int} {l : List ByteArray} (h : NoClash w l) (t : ByteArray) : other w l t = match l.find? (fun x => decide (sumS x w = sumS t w)) with | some f => if f = t then none else some f | none => none := by
 cases hf : l.find? (fun x => decide (sumS x w = sumS t w)) with
 | none =>
   rw [List.find?_eq_none] at hf
   simp only [AM.other]
   rw [List.find?_eq_none]
   intro x hx
   have := hf x hx
   simp at this
   simp [this]
 | some f =>
   have hm := List.mem_of_find?_eq_some hf
   have hs := List.find?_some hf
   simp at hs
   by_cases e : f = t
   ·simp only [e, if_true, AM.other]
    rw [List.find?_eq_none]
    intro x hx
    simp only [decide_eq_true_eq, not_and, ne_eq, Classical.not_not]
    intro hxs
    have := h x hx f hm (hxs.trans hs.symm)
    rw [this, e]
   ·simp only [e, if_false, AM.other]
    have : ∀ k : List ByteArray, (∀ x ∈ k, x ∈ l) → k.find? (fun x => decide (sumS x w = sumS t w ∧ x ≠ t)) = k.find? (fun x => decide (sumS x w = sumS t w)) := by
     intro k
     induction k with
     | nil => intro _; rfl
     | cons y k ih =>
       intro hk
       by_cases hy : sumS y w = sumS t w
       ·have hyf : y = f := h y (hk y (by simp)) f hm (hy.trans hs.symm)
        have hyt : y ≠ t := by rw [hyf]; exact e
        simp [hy, hyt]
       ·simp only [List.find?_cons, hy, false_and, decide_false]
        exact ih fun x hx => hk x (by simp [hx])
    rw [this l fun x hx => hx, hf]
theorem NoClash.snoc {w : Int} {l : List ByteArray} (h : NoClash w l) {t : ByteArray} (ho : AM.other w l t = none) : NoClash w (l ++ [t]) := by
 have hk : ∀ x ∈ l, sumS x w = sumS t w → x = t := by
  intro x hx hs
  rw [AM.other, List.find?_eq_none] at ho
  have := ho x hx
  simp only [decide_eq_true_eq, not_and, ne_eq, Classical.not_not] at this
  exact this hs
 intro x hx y hy hs
 rcases List.mem_append.1 hx with h1 | h1 <;> rcases List.mem_append.1 hy with h2 | h2
 ·exact h x h1 y h2 hs
 ·have e := List.mem_singleton.1 h2; rw [e] at hs ⊢; exact hk x h1 hs
 ·have e := List.mem_singleton.1 h1; rw [e] at hs ⊢; exact (hk y h2 hs.symm).symm
 ·rw [List.mem_singleton.1 h1, List.mem_singleton.1 h2]
end Go.AM
namespace Go.AM
open Go
set_option linter.all false
def slt (a b : ByteArray) : Prop := Op.bytesLess a.toList b.toList = true
instance (a b : ByteArray) : Decidable (slt a b) := by unfold slt; infer_instance
theorem bl_trans : ∀ {a b c : List UInt8}, Op.bytesLess a b = true → Op.bytesLess b c = true → Op.bytesLess a c = true
 | _, [], _, h, _ => by unfold Op.bytesLess at h; cases h
 | _, _ :: _, [], _, k => by unfold Op.bytesLess at k; cases k
 | [], _ :: _, _ :: _, _, _ => rfl
 | a :: x, b :: y, c :: z, h, k => by
   simp only [Op.bytesLess, Bool.or_eq_true, decide_eq_true_eq, Bool.and_eq_true, beq_iff_eq] at h k ⊢
   rcases h with h | ⟨h1, h2⟩ <;> rcases k with k | ⟨k1, k2⟩
   ·exact .inl (UInt8.lt_trans h k)
   ·subst k1; exact .inl h
   ·subst h1; exact .inl k
   ·exact .inr ⟨h1.trans k1, bl_trans h2 k2⟩
theorem slt_trans {a b c : ByteArray} (h : slt a b) (k : slt b c) : slt a c := bl_trans h k
def NameB (b : UInt8) : Prop := 33 ≤ b.toNat ∧ b.toNat ≤ 126
instance (b : UInt8) : Decidable (NameB b) := by unfold NameB; infer_instance
def NameOk (s : ByteArray) : Prop := 1 ≤ s.size ∧ s.size ≤ 60 ∧ ∀ b ∈ ls s, NameB b
instance (s : ByteArray) : Decidable (NameOk s) := by unfold NameOk; infer_instance
theorem ls_take_all (s : ByteArray) : (ls s).take s.size = ls s := by rw [← ls_length s, List.take_length]
def GlanceOk (g : TGlance) (w : Int) : Prop := NameOk g.1 ∧ (g.2.2.size : Int) = w
instance (g : TGlance) (w : Int) : Decidable (GlanceOk g w) := by unfold GlanceOk; infer_instance
def RecOk (r : TRecord) (w : Int) : Prop := ProgOk r.1 ∧ r.2.1.length ≤ 200 ∧ (r.2.2.size : Int) = w ∧ ∀ g ∈ r.2.1, GlanceOk g w
instance (r : TRecord) (w : Int) : Decidable (RecOk r w) := by unfold RecOk; infer_instance
def Rising (w : Int) : List ByteArray → Prop
 | [] => True
 | [_] => True
 | a :: b :: r => slt (sumS a w) (sumS b w) ∧ Rising w (b :: r)
instance Rising.dec (w : Int) : (l : List ByteArray) → Decidable (Rising w l)
 | [] => isTrue trivial
 | [_] => isTrue trivial
 | a :: b :: r => by unfold Rising; exact @instDecidableAnd _ _ _ (Rising.dec w (b :: r))
theorem Rising.snoc {w : Int} : ∀ {l : List ByteArray} {a b : ByteArray}, Rising w (l ++ [a] ++ [b]) ↔ Rising w (l ++ [a]) ∧ slt (sumS a w) (sumS b w)
 | [], a, b => by simp [Rising]
 | [x], a, b => by simp [Rising, and_comm]
 | x :: y :: r, a, b => by
   have := Rising.snoc (w := w) (l := y :: r) (a := a) (b := b)
   simp only [List.cons_append, Rising] at this ⊢
   rw [this, and_assoc]
theorem Rising.take {w : Int} : ∀ {l : List ByteArray} (i : Nat), Rising w l → Rising w (l.take i)
 | [], i, h => by simpa using h
 | [x], 0, h => trivial
 | [x], i + 1, h => by simpa using h
 | x :: y :: r, 0, h => trivial
 | x :: y :: r, 1, h => trivial
 | x :: y :: r, i + 2, h => by
   have := Rising.take (w := w) (i + 1) h.2
   simp only [List.take_succ_cons, Rising] at this ⊢
   exact ⟨h.1, this⟩
theorem Rising.step {w : Int} {l : List ByteArray} {i : Nat} (hi : i + 1 < l.length) : Rising w (l.take (i + 2)) ↔ Rising w (l.take (i + 1)) ∧ slt (sumS l[i] w) (sumS l[i + 1] w) := by
 rw [List.take_succ_eq_append_getElem hi, List.take_succ_eq_append_getElem (by omega : i < l.length), Rising.snoc]
def StoreOk (s : TStore) : Prop := isW s.1 ∧ s.2.1.length ≤ 5000 ∧ s.2.2.length ≤ 2000 ∧ Rising s.1 s.2.1 ∧ (∀ t ∈ s.2.1, t.size ≤ 2002) ∧ ∀ r ∈ s.2.2, RecOk r s.1
instance (s : TStore) : Decidable (StoreOk s) := by unfold StoreOk; infer_instance
theorem SlR.record {A : AH} {s : Sl} {l : List TRecord} {F : List Nat} (h : SlR A s l F) {i : Nat} (hi : i < l.length) : s.nl = false ∧ s.b < A.size ∧ i < s.len ∧ ∃ s1 s2 G1 G2,
 rowK (s.o + i * 3) 3 (A.get s.b) = some [s1.v, s2.v, .string l[i].2.2] ∧ SlR A s1 l[i].1 G1 ∧ SlR A s2 l[i].2.1 G2 ∧ l[i].2.2.size < 4611686018427387904 ∧ (∀ b ∈ G1, b ∈ F) ∧ ∀ b ∈ G2, b ∈ F := by
 obtain ⟨n1, b1, m1, i1, cs, Fi, c1, q1, hF⟩ := h.row hi
 rw [aRow_eq] at c1
 obtain ⟨s1, s2, G1, G2, rfl, rfl, h1, h2, z1⟩ := rep_Record.1 q1
 exact ⟨n1, b1, i1, s1, s2, G1, G2, c1, h1, h2, big_lt z1, fun b hb => hF b (by simp [hb]), fun b hb => hF b (by simp [hb])⟩
end Go.AM
namespace Go.AM
open Go
set_option linter.all false
def Asc : List ByteArray → Prop
 | [] => True
 | [_] => True
 | a :: b :: r => slt a b ∧ Asc (b :: r)
instance Asc.dec : (l : List ByteArray) → Decidable (Asc l)
 | [] => isTrue trivial
 | [_] => isTrue trivial
 | a :: b :: r => by unfold Asc; exact @instDecidableAnd _ _ _ (Asc.dec (b :: r))
theorem Asc.snoc : ∀ {l : List ByteArray} {a b : ByteArray}, Asc (l ++ [a] ++ [b]) ↔ Asc (l ++ [a]) ∧ slt a b
 | [], a, b => by simp [Asc]
 | [x], a, b => by simp [Asc, and_comm]
 | x :: y :: r, a, b => by
   have := Asc.snoc (l := y :: r) (a := a) (b := b)
   simp only [List.cons_append, Asc] at this ⊢
   rw [this, and_assoc]
theorem Asc.take : ∀ {l : List ByteArray} (i : Nat), Asc l → Asc (l.take i)
 | [], i, h => by simpa using h
 | [x], 0, h => trivial
 | [x], i + 1, h => by simpa using h
 | x :: y :: r, 0, h => trivial
 | x :: y :: r, 1, h => trivial
 | x :: y :: r, i + 2, h => by
   have := Asc.take (i + 1) h.2
   simp only [List.take_succ_cons, Asc] at this ⊢
   exact ⟨h.1, this⟩
theorem arrAddr (P : Program) (t : TypeId) (a : Addr) (k : IntKind) (i : Int) : aIndexAddr P t (.pointer (some a)) (.int k i) = (tArray P t).bind fun q => if 0 ≤ i ∧ i < q.1 then some (.pointer (some (a.add (i.toNat * q.2.2)))) else none := by
 unfold aIndexAddr
 cases tArray P t with
 | none => rfl
 | some q => rfl
theorem SlR.cells {α : Type} [Dat α] {A : AH} {s : Sl} {l : List α} {F : List Nat} (h : SlR A s l F) {i : Nat} (hi : i < l.length) : ∃ c cs Fi, s.nl = false ∧ s.b < A.size ∧ i < s.len ∧ A.get s.b = .cells c (Dat.w α) ∧ s.o + i * Dat.w α + Dat.w α ≤ c.length ∧
 (c.drop (s.o + i * Dat.w α)).take (Dat.w α) = cs ∧ Dat.rep A l[i] cs Fi ∧ (∀ b ∈ Fi, b ∈ F) ∧ rowK (s.o + i * Dat.w α) (Dat.w α) (.cells c (Dat.w α)) = some cs := by
 obtain ⟨n1, b1, c, Fi, g1, _, g3, g4, _, g6⟩ := h.at hi
 refine ⟨c, _, Fi, n1, b1, by rw [h.len]; exact hi, g1, g3, rfl, g4, g6, ?_⟩
 unfold rowK
 simp only [if_pos g3]
end Go.AM
namespace Go.AM
open Go
set_option linter.all false
def lookH (n : Nat) (e : Env) (op : Op) (p : Prop) : Prop := (isEff op = false → ∀ b, readsAt e op = some b → b < n) ∧ p
def keepH (n : Nat) (A A1 : AH) (p : Prop) : Prop := (∀ b, b < n → A1.get b = A.get b) ∧ p
def lookV (n : Nat) (v : Value) (p : Prop) : Prop := (∀ a, v = .pointer (some a) → a.block < n) ∧ p
def lookM (n : Nat) (v : Value) (p : Prop) : Prop := (∀ r, v = .map (some r) → r < n) ∧ p
def restH (n : Nat) (fl : List Nat) (i : Nat) (op : Op) (e : Env) (A : AH) (rest : Rest) : Rest := fun j e' A1 =>
 lookH n e op (if fl.elem i then keepH n A A1 (rest j e' A1) else rest j e' A1)
def RunH (P : Program) (ro : Nat) (X : FuncId → List Value → AH → ARes → AH → Prop) (ops : Array Oper) (n : Nat) (fl : List Nat) (Q : Post) : List Oper → Rest
 | [], _, e, A => Q .normal e A
 | o :: os, i, e, A =>
   RunW (RunH P ro X ops n fl Q os) o i e A (RunOp P ro X ops none Q o (restH n fl i o.op e A (RunH P ro X ops n fl Q os)) i e A) (aWanted ops o e)
section
variable {P : Program} {ro : Nat} {X : FuncId → List Value → AH → ARes → AH → Prop} {Q : Post}
theorem RunH.sound {ops : Array Oper} {n : Nat} {fl : List Nat} (hk : drawFree ops fl = true) (hp : callsWait ops = true ∨ ∀ v e A, ¬ Q (.pan v) e A) : ∀ (os : List Oper) (i : Nat) (e : Env) (A : AH), os = ops.toList.drop i → RunH P ro X ops n fl Q os i e A →
 WpOps P ro X ops (some fun b => b < n) (List.range' i os.length) e A Q := by
 intro os
 induction os with
 | nil => intro i e A _ h; exact WpOps.nil h
 | cons o os ih =>
   intro i e A hos h
   have ho : ops[i]? = some o := by
    have := congrArg (·[0]?) hos
    simpa using this.symm
   have hos' : os = ops.toList.drop (i + 1) := by
    have := congrArg (List.drop 1) hos
    simpa [List.drop_drop, Nat.add_comm] using this
   have hi : i < ops.size := by
    rcases Nat.lt_or_ge i ops.size with h' | h'
    ·exact h'
    ·rw [Array.getElem?_eq_none h'] at ho; cases ho
   have hat : opAt ops i = o.op := by simp [opAt, ho]
   have hk2 := hk
   unfold drawFree at hk2
   rw [Bool.and_eq_true] at hk2
   have hkk := List.all_eq_true.1 hk2.2 i (List.mem_range.2 hi)
   rw [hat, Bool.and_eq_true] at hkk
   have held : ∀ (e' : Env) (A1 : AH) (rest : Rest), restH n fl i o.op e A rest (i + 1) e' A1 → Held ops (some fun b => b < n) i o.op e A A1 ∧ rest (i + 1) e' A1 := by
    intro e' A1 rest hr
    unfold restH lookH at hr
    obtain ⟨hl, hr⟩ := hr
    by_cases hf : fl.elem i = true
    ·rw [if_pos hf] at hr
     refine ⟨fun S hS => ?_, hr.2⟩
     cases hS
     exact ⟨fun b h1 h2 => hl h1 b h2, fun _ _ b hb hs => hr.1 b hs⟩
    ·rw [if_neg hf] at hr
     refine ⟨fun S hS => ?_, hr⟩
     cases hS
     refine ⟨fun b h1 h2 => hl h1 b h2, fun h1 h2 => ?_⟩
     rw [h1, h2] at hkk
     simp only [Bool.not_true, Bool.false_or] at hkk
     exact absurd hkk.2 hf
   rw [List.length_cons, List.range'_succ]
   simp only [RunH] at h
   cases hw : aWanted ops o e with
   | false =>
     rw [hw] at h
     simp only [RunW] at h
     obtain ⟨x, e', A', hb2, hq2⟩ := ih _ _ _ hos' h
     exact ⟨x, e', A', .pass ho hw hb2, hq2⟩
   | true =>
     rw [hw] at h
     simp only [RunW, RunOp] at h
     cases ht : aTarget e o.op with
     | some fa =>
       obtain ⟨f, args⟩ := fa
       rw [ht] at h
       obtain ⟨r, A1, hb, hq⟩ := h
       cases r with
       | ret v =>
         simp only [RunK] at hq
         obtain ⟨hd, hq⟩ := held _ _ _ hq.2
         obtain ⟨x, e', A', hb2, hq2⟩ := ih _ _ _ hos' hq
         exact ⟨x, e', A', .call ho hw ht hb hd hb2, hq2⟩
       | pan v =>
         rcases hp with hp | hp
         ·refine ⟨_, _, _, .callp ho hw ht hb (fun _ => ?_), hq.2⟩
          have := List.all_eq_true.1 hp i (List.mem_range.2 hi)
          rw [hat] at this
          have hc : isCallV o.op = true := by
           cases hop : o.op <;> rw [hop] at ht <;> simp only [aTarget] at ht <;> try (cases ht; done)
           split at ht
           ·rename_i hc; simp [isCallV, hc]
           ·cases ht
          simpa [hc] using this
         ·exact absurd hq.2 (hp _ _ _)
     | none =>
       rw [ht] at h
       simp only [RunT] at h
       cases hpn : aPanic e o.op with
       | some v =>
         cases hop : o.op <;> simp only [hop, aPanic] at hpn <;> try (cases hpn; done)
         rw [hop] at hkk
         simp [isPanic] at hkk
       | none =>
         rw [hpn] at h
         simp only [RunP] at h
         cases hv : aOp P ro A.size o.op e A with
         | none => rw [hv] at h; exact h.elim
         | some va =>
           obtain ⟨v, A1⟩ := va
           rw [hv] at h
           obtain ⟨hd, hq⟩ := held _ _ _ h.2
           obtain ⟨x, e', A', hb2, hq2⟩ := ih _ _ _ hos' hq
           exact ⟨x, e', A', .op ho hw hv hd hb2, hq2⟩
theorem Wp.runH {id : Nat} {ops : Array Oper} {e : Env} {A : AH} (n : Nat) (fl : List Nat) (hk : drawFree ops fl = true) (hp : callsWait ops = true ∨ ∀ v e A, ¬ Q (.pan v) e A) (h : RunH P ro X ops n fl Q ops.toList 0 e A) :
 Wp P ro X (.region id ops true) e A Q := by
 have := RunH.sound hk hp ops.toList 0 e A (by simp) h
 have hk2 := hk
 unfold drawFree at hk2
 rw [Bool.and_eq_true] at hk2
 refine Wp.drawn (fun b => b < n) rfl hk2.1 ?_
 simpa [List.range_eq_range'] using this
theorem WpH {id : Nat} {ops : Array Oper} {e : Env} {A : AH} (n : Nat) (fl : List Nat) (hk : drawFree ops fl = true) (hp : callsWait ops = true ∨ ∀ v e A, ¬ Q (.pan v) e A) (h : RunH P ro X ops n fl Q ops.toList 0 e A) :
 RunC P ro X (.region id ops true) Q e A := Wp.runH n fl hk hp h
end
theorem lookH_no {n : Nat} {e : Env} {op : Op} {p : Prop} (h : readsAt e op = none) : lookH n e op p = p := by
 unfold lookH
 rw [h]
 exact propext ⟨fun h => h.2, fun h => ⟨fun _ _ h => (nomatch h), h⟩⟩
theorem lookH_eff {n : Nat} {e : Env} {op : Op} {p : Prop} (h : isEff op = true) : lookH n e op p = p := by
 unfold lookH
 rw [h]
 exact propext ⟨fun h => h.2, fun h => ⟨fun h => (nomatch h), h⟩⟩
theorem amX (P : Program) (ro : Nat) (X : FuncId → List Value → AH → ARes → AH → Prop) :
 (∀ ops n fl Q i e A, RunH P ro X ops n fl Q [] i e A = Q .normal e A) ∧
 (∀ ops n fl Q o os i e A, RunH P ro X ops n fl Q (o :: os) i e A = RunW (RunH P ro X ops n fl Q os) o i e A (RunOp P ro X ops none Q o (restH n fl i o.op e A (RunH P ro X ops n fl Q os)) i e A) (aWanted ops o e)) ∧
 (∀ n fl i op e A rest j e' A1, restH n fl i op e A rest j e' A1 = lookH n e op (if fl.elem i then keepH n A A1 (rest j e' A1) else rest j e' A1)) ∧
 (∀ n e x p, lookH n e (.move x) p = p) ∧ (∀ n e x p, lookH n e (.assign x) p = p) ∧ (∀ n e c a b p, lookH n e (.pick c a b) p = p) ∧ (∀ n e t p, lookH n e (.alloc t) p = p) ∧ (∀ n e t x p, lookH n e (.box t x) p = p) ∧
 (∀ n e t x p, lookH n e (.build t x) p = p) ∧ (∀ n e t k x p, lookH n e (.buildSlice t k x) p = p) ∧ (∀ n e t a v p, lookH n e (.store t a v) p = p) ∧ (∀ n e t m a v p, lookH n e (.mapUpdate t m a v) p = p) ∧
 (∀ n e o t a b u p, lookH n e (.binOp o t a b u) p = p) ∧ (∀ n e o t a p, lookH n e (.unOp o t a) p = p) ∧ (∀ n e t a i p, lookH n e (.fieldAddr t a i) p = p) ∧ (∀ n e t a i p, lookH n e (.field t a i) p = p) ∧
 (∀ n e t a i p, lookH n e (.indexAddr t a i) p = p) ∧ (∀ n e t a i p, lookH n e (.index t a i) p = p) ∧ (∀ n e t a i p, lookH n e (.makeSlice t a i) p = p) ∧ (∀ n e t a p, lookH n e (.makeMap t a) p = p) ∧ (∀ n e a i p, lookH n e (.extract a i) p = p) ∧
 (∀ n e f args ts p, lookH n e (.call ⟨.value f, args, ts⟩) p = p) ∧ (∀ n e args ts p, lookH n e (.call ⟨.builtin .append, args, ts⟩) p = p) ∧
 (∀ n e x ts p, lookH n e (.call ⟨.builtin .len, #[x], ts⟩) p = lookM n (e.eval x) p) ∧ (∀ n e t x p, lookH n e (.load t x) p = lookV n (e.eval x) p) ∧
 (∀ n s k c p, lookM n (.slice s k c) p = p) ∧ (∀ n (s : Sl) p, lookM n s.v p = p) ∧ (∀ n s p, lookM n (.string s) p = p) ∧ (∀ n r p, r < n → lookM n (.map (some r)) p = p) ∧
 (∀ n b o t p, b < n → lookV n (.pointer (some ⟨b, o, t⟩)) p = p) ∧
 (∀ n A p, keepH n A A p = p) ∧ (∀ n A b o p, n ≤ b → keepH n A (A.put b o) p = p) ∧ (∀ n (A : AH) o p, n ≤ A.size → keepH n A (A.new o) p = p) ∧ (∀ n (A : AH) o b o2 p, n ≤ A.size → n ≤ b → keepH n A ((A.new o).put b o2) p = p) :=
 ⟨fun _ _ _ _ _ _ _ => rfl, fun _ _ _ _ _ _ _ _ _ => rfl, fun _ _ _ _ _ _ _ _ _ _ => rfl,
  fun _ _ _ _ => lookH_no rfl, fun _ _ _ _ => lookH_no rfl, fun _ _ _ _ _ _ => lookH_no rfl, fun _ _ _ _ => lookH_no rfl, fun _ _ _ _ _ => lookH_no rfl,
  fun _ _ _ _ _ => lookH_no rfl, fun _ _ _ _ _ _ => lookH_no rfl, fun _ _ _ _ _ _ => lookH_no rfl, fun _ _ _ _ _ _ _ => lookH_no rfl,
  fun _ _ _ _ _ _ _ _ => lookH_no rfl, fun _ _ _ _ _ _ => lookH_no rfl, fun _ _ _ _ _ _ => lookH_no rfl, fun _ _ _ _ _ _ => lookH_no rfl,
  fun _ _ _ _ _ _ => lookH_no rfl, fun _ _ _ _ _ _ => lookH_no rfl, fun _ _ _ _ _ _ => lookH_no rfl, fun _ _ _ _ _ => lookH_no rfl, fun _ _ _ _ _ => lookH_no rfl,
  fun _ _ _ _ _ _ => lookH_eff rfl, fun _ _ _ _ _ => lookH_eff rfl,
  fun n e x ts p => (by
   unfold lookH lookM
   simp only [isEff, readsAt]
   refine propext ⟨fun h => ⟨fun r hr => h.1 trivial r (by rw [hr]), h.2⟩, fun h => ⟨fun _ b hb => ?_, h.2⟩⟩
   cases hx : e.eval x with
   | map o => cases o with
     | none => rw [hx] at hb; cases hb
     | some r => rw [hx] at hb; cases hb; exact h.1 _ hx
   | _ => rw [hx] at hb; cases hb),
  fun n e t x p => (by
   unfold lookH lookV
   simp only [isEff, readsAt]
   refine propext ⟨fun h => ⟨fun r hr => h.1 trivial r.block (by rw [hr]), h.2⟩, fun h => ⟨fun _ b hb => ?_, h.2⟩⟩
   cases hx : e.eval x with
   | pointer o => cases o with
     | none => rw [hx] at hb; cases hb
     | some r => rw [hx] at hb; cases hb; exact h.1 _ hx
   | _ => rw [hx] at hb; cases hb),
  fun n s k c p => propext ⟨fun h => h.2, fun h => ⟨fun _ h => (nomatch h), h⟩⟩, fun n s p => propext ⟨fun h => h.2, fun h => ⟨fun r hr => (nomatch hr), h⟩⟩,
  fun n s p => propext ⟨fun h => h.2, fun h => ⟨fun _ h => (nomatch h), h⟩⟩,
  fun n r p hr => propext ⟨fun h => h.2, fun h => ⟨fun _ h => (by cases h; exact hr), h⟩⟩,
  fun n b o t p hr => propext ⟨fun h => h.2, fun h => ⟨fun _ h => (by cases h; exact hr), h⟩⟩,
  fun n A p => propext ⟨fun h => h.2, fun h => ⟨fun _ _ => rfl, h⟩⟩,
  fun n A b o p hn => propext ⟨fun h => h.2, fun h => ⟨fun c hc => AH.gPo (by omega), h⟩⟩,
  fun n A o p hn => propext ⟨fun h => h.2, fun h => ⟨fun c hc => AH.gNo (by omega), h⟩⟩,
  fun n A o b o2 p hn hb => propext ⟨fun h => h.2, fun h => ⟨fun c hc => (AH.gPo (by omega)).trans (AH.gNo (by omega)), h⟩⟩⟩
end Go.AM
namespace Go.AM
open Go
set_option linter.all false
theorem Rising.lt {w : Int} {l : List ByteArray} (h : Rising w l) {i j : Nat} (hij : i < j) (hj : j < l.length) : slt (sumS l[i] w) (sumS l[j] w) := by
 have step : ∀ k (hk : k + 1 < l.length), slt (sumS l[k] w) (sumS l[k + 1] w) := fun k hk => ((Rising.step hk).1 (Rising.take _ h)).2
 obtain ⟨d, rfl⟩ : ∃ d, j = i + 1 + d := ⟨j - (i + 1), by omega⟩
 induction d with
 | zero => exact step i hj
 | succ d ih => exact slt_trans (ih (by omega) (by omega) step) (step (i + 1 + d) hj)
end Go.AM
namespace Go.AM
open Go
set_option linter.all false
section
variable {A A' : AH} {F : List Nat} {lo hi : Nat}
theorem ExtX.out (h : ExtX F A A') (hF : ∀ b, b ∈ F → lo ≤ b ∧ b < hi) : ∀ b, b < A.size → (b < lo ∨ hi ≤ b) → A'.get b = A.get b :=
 fun b hb hn => h.get b hb fun hm => by have := hF b hm; omega
theorem SlR.out {α : Type} [Dat α] {s : Sl} {l : List α} {G : List Nat} (h : SlR A s l G) (hX : ExtX F A A') (hF : ∀ b, b ∈ F → lo ≤ b ∧ b < hi) (hG : ∀ b, b ∈ G → b < lo ∨ hi ≤ b) : SlR A' s l G :=
 h.extx hX fun b hb hm => by have := hF b hm; have := hG b hb; omega
theorem Dat.out {α : Type} [Dat α] {x : α} {cs : List Value} {G : List Nat} (h : Dat.rep A x cs G) (hX : ExtX F A A') (hF : ∀ b, b ∈ F → lo ≤ b ∧ b < hi) (hG : ∀ b, b ∈ G → b < lo ∨ hi ≤ b) : Dat.rep A' x cs G :=
 Dat.frame h fun b hb => ⟨hX.out hF b (Dat.bound h b hb) (hG b hb), Nat.lt_of_lt_of_le (Dat.bound h b hb) hX.size⟩
theorem ExtX.base {A0 : AH} (h : ExtX F A A') (hF : ∀ b, b ∈ F → lo ≤ b ∧ b < hi) (hE : Ext A0 A) (hl : A0.size ≤ lo) : Ext A0 A' :=
 ⟨Nat.le_trans hE.size h.size, fun b hb => (h.out hF b (Nat.lt_of_lt_of_le hb hE.size) (.inl (Nat.lt_of_lt_of_le hb hl))).trans (hE.get b hb)⟩
theorem Fresh.both (h : Fresh A F A') : ∀ b, b ∈ F → A.size ≤ b ∧ b < A'.size := fun b hb => ⟨h.lo b hb, h.hi b hb⟩
end
theorem Reps.nofoot {α : Type} [Dat α] (hα : ∀ {A : AH} {x : α} {cs F}, Dat.rep A x cs F → F = []) {A : AH} {l : List α} {cs : List Value} {F : List Nat} (h : Reps A l cs F) : F = [] := by
 induction h with
 | nil => rfl
 | cons h k ih => rw [hα h, ih]; rfl
def noteBad (p : TProgram) (l : List TSeen) (f : ByteArray) (w : Int) : Prop := ¬ ProgOk p ∨ ¬ isW w ∨ 200 < l.length ∨ f = ⟨#[]⟩
instance (p : TProgram) (l : List TSeen) (f : ByteArray) (w : Int) : Decidable (noteBad p l f w) := by unfold noteBad; infer_instance
end Go.AM
namespace Go.AM
open Go
set_option linter.all false
section
variable {P : Program} {ro : Nat} {X : FuncId → List Value → AH → ARes → AH → Prop}
theorem RunL.mono {ops : Array Oper} {D : Option (Nat → Prop)} {Q1 Q2 : Post} (h : ∀ x e A, Q1 x e A → Q2 x e A) : ∀ (os : List Oper) (i : Nat) (e : Env) (A : AH), RunL P ro X ops D Q1 os i e A → RunL P ro X ops D Q2 os i e A := by
 intro os
 induction os with
 | nil => intro i e A k; exact h _ _ _ k
 | cons o os ih =>
   intro i e A k
   simp only [RunL] at k ⊢
   cases hw : aWanted ops o e with
   | false => rw [hw] at k; exact ih _ _ _ k
   | true =>
     rw [hw] at k
     simp only [RunW, RunOp] at k ⊢
     cases ht : aTarget e o.op with
     | some fa =>
       obtain ⟨f, args⟩ := fa
       rw [ht] at k
       simp only [RunT] at k ⊢
       refine k.mono fun r A1 hk => ?_
       cases r with
       | ret v => exact ⟨hk.1, ih _ _ _ hk.2⟩
       | pan v => exact ⟨hk.1, h _ _ _ hk.2⟩
     | none =>
       rw [ht] at k
       simp only [RunT] at k ⊢
       cases hp : aPanic e o.op with
       | some v => rw [hp] at k; exact ⟨k.1, h _ _ _ k.2⟩
       | none =>
         rw [hp] at k
         simp only [RunP] at k ⊢
         cases hv : aOp P ro A.size o.op e A with
         | none => rw [hv] at k; exact k.elim
         | some va => rw [hv] at k; exact ⟨k.1, ih _ _ _ k.2⟩
theorem thenQ.mono {K1 K2 : Env → AH → Prop} {Q1 Q2 : Post} (hK : ∀ e A, K1 e A → K2 e A) (h : ∀ x e A, Q1 x e A → Q2 x e A) (x : AExit) (e : Env) (A : AH) (k : thenQ K1 Q1 x e A) : thenQ K2 Q2 x e A := by
 cases x with
 | normal => exact hK _ _ k
 | _ => exact h _ _ _ k
theorem blockQ.mono {id : Nat} {Q1 Q2 : Post} (h : ∀ x e A, Q1 x e A → Q2 x e A) (x : AExit) (e : Env) (A : AH) (k : blockQ id Q1 x e A) : blockQ id Q2 x e A := by
 cases x with
 | exit n =>
   have k : (if n = id then Q1 .normal e A else Q1 (.exit n) e A) := k
   show (if n = id then Q2 .normal e A else Q2 (.exit n) e A)
   by_cases hn : n = id
   ·rw [if_pos hn] at k ⊢; exact h _ _ _ k
   ·rw [if_neg hn] at k ⊢; exact h _ _ _ k
 | _ => exact h _ _ _ k
theorem RunC.mono : ∀ (c : Code) {Q1 Q2 : Post} (h : ∀ x e A, Q1 x e A → Q2 x e A) (e : Env) (A : AH), RunC P ro X c Q1 e A → RunC P ro X c Q2 e A := by
 intro c
 induction c with
 | skip => intro Q1 Q2 h e A k; exact h _ _ _ k
 | seq a b iha ihb =>
   intro Q1 Q2 h e A k
   exact iha (fun x e A => thenQ.mono (fun e A => ihb h e A) h x e A) e A k
 | cond c a b iha ihb =>
   intro Q1 Q2 h e A k
   simp only [RunC] at k ⊢
   cases hv : e.eval c <;> rw [hv] at k <;> first | exact k.elim | skip
   rename_i t
   cases t
   ·exact ihb h e A k
   ·exact iha h e A k
 | block id a ih =>
   intro Q1 Q2 h e A k
   exact ih (fun x e A => blockQ.mono h x e A) e A k
 | exit id => intro Q1 Q2 h e A k; exact h _ _ _ k
 | ret => intro Q1 Q2 h e A k; exact h _ _ _ k
 | region id ops d =>
   intro Q1 Q2 h e A k
   cases d with
   | false => exact RunL.mono h _ _ _ _ k
   | true => exact Wp.mono k h
 | _ => intro Q1 Q2 h e A k; exact Wp.mono k h
theorem RunC.cut {a b : Code} {Q : Post} {e : Env} {A : AH} (M : Env → AH → Prop) (h : RunC P ro X a (fun x e A => x = .normal ∧ M e A) e A) (k : ∀ e A, M e A → RunC P ro X b Q e A) : RunC P ro X (.seq a b) Q e A := by
 refine RunC.mono a (fun x e A hx => ?_) e A h
 obtain ⟨rfl, hm⟩ := hx
 exact k _ _ hm
theorem Wp.cut {a b : Code} {Q : Post} {e : Env} {A : AH} (M : Env → AH → Prop) (h : RunC P ro X a (fun x e A => x = .normal ∧ M e A) e A) (k : ∀ e A, M e A → Wp P ro X b e A Q) : Wp P ro X (.seq a b) e A Q := by
 obtain ⟨x, e', A', hb, rfl, hm⟩ := RunC.sound _ _ _ _ h
 obtain ⟨y, e2, A2, hb2, hq⟩ := k _ _ hm
 exact ⟨y, e2, A2, .seq hb hb2, hq⟩
end
end Go.AM
namespace Go.AM
open Go
set_option linter.all false
section
variable {P : Program} {ro : Nat} {X : FuncId → List Value → AH → ARes → AH → Prop}
end
end Go.AM
