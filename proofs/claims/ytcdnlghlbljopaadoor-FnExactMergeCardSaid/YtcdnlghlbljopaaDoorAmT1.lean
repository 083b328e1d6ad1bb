/- The program's table of instructions; what a valid instruction is. -/
import Derived.Test.YtcdnlghlbljopaaDoorAmQ
namespace Go.AM
open Go
set_option linter.unusedVariables false
set_option linter.unusedSimpArgs false
abbrev TOp := ByteArray × UInt8 × Int × Int
/-- Of each instruction: its word, its operand's kind, how many texts it takes and puts. -/
def opsL : List TOp := [(⟨#[]⟩, 0, 0, 0), (⟨#[108, 105, 116]⟩, 116, 0, 1), (⟨#[99, 97, 116]⟩, 0, 2, 1), (⟨#[99, 117, 116]⟩, 110, 1, 1), (⟨#[114, 101, 115, 116]⟩, 110, 1, 1), (⟨#[119, 111, 114, 100]⟩, 110, 1, 1), (⟨#[115, 97, 109, 101]⟩, 0, 2, 1),
  (⟨#[100, 117, 112]⟩, 0, 1, 2), (⟨#[115, 119, 97, 112]⟩, 0, 2, 2), (⟨#[100, 114, 111, 112]⟩, 0, 1, 0), (⟨#[106, 117, 109, 112]⟩, 106, 0, 0), (⟨#[117, 110, 108, 101, 115, 115]⟩, 106, 1, 0), (⟨#[97, 115, 107]⟩, 0, 1, 1), (⟨#[104, 97, 115]⟩, 0, 1, 1),
  (⟨#[102, 97, 105, 108]⟩, 0, 1, 0), (⟨#[101, 110, 100]⟩, 0, 1, 0)]
def opRow (op : Int) : TOp := opsL.getD op.toNat (⟨#[]⟩, 0, 0, 0)
def opWord (op : Int) : ByteArray := (opRow op).1
def opKd (op : Int) : UInt8 := (opRow op).2.1
def opTake (op : Int) : Int := (opRow op).2.2.1
def opPut (op : Int) : Int := (opRow op).2.2.2
/-- The table lies under the variable of number g. -/
def Tab (g : Nat) (A : AH) : Prop := ∃ s F, A.get g = .cells [s.v] 1 ∧ g < A.size ∧ SlR A s opsL F
theorem Tab.ext {g : Nat} {A A' : AH} (h : Tab g A) (hE : Ext A A') : Tab g A' := by
  obtain ⟨s, F, h1, h2, h3⟩ := h
  exact ⟨s, F, (hE.get _ h2).trans h1, Nat.lt_of_lt_of_le h2 hE.size, h3.ext hE⟩
theorem Tab.at {g : Nat} {A : AH} (h : Tab g A) : ∃ (s : Sl) (c : List Value), A.get g = .cells [s.v] 1 ∧ g < A.size ∧ s.nl = false ∧ s.len = 16 ∧ s.b < A.size ∧ A.get s.b = .cells c 4 ∧ s.o + 64 ≤ c.length ∧
    ∀ op : Int, 0 ≤ op → op < 16 → c[s.o + op.toNat * 4]? = some (.string (opWord op)) ∧ c[s.o + op.toNat * 4 + 1]? = some (.int .u8 (opKd op).toNat) ∧ c[s.o + op.toNat * 4 + 2]? = some (.int .i64 (opTake op)) ∧ c[s.o + op.toNat * 4 + 3]? = some (.int .i64 (opPut op)) ∧
      rowK (s.o + op.toNat * 4) 4 (.cells c 4) = some [.string (opWord op), .int .u8 (opKd op).toNat, .int .i64 (opTake op), .int .i64 (opPut op)] := by
  obtain ⟨s, F, h1, h2, h3⟩ := h
  have hl : s.len = 16 := h3.len
  obtain ⟨n1, b1, c, _, g1, g2, _, _, _, _⟩ := h3.at (i := 0) (by decide)
  refine ⟨s, c, h1, h2, n1, hl, b1, g1, by rw [hl] at g2; exact g2, fun op h0 h16 => ?_⟩
  have hi : op.toNat < opsL.length := by show op.toNat < 16; omega
  obtain ⟨_, _, c', Fi, k1, k2, k3, k4, _, _⟩ := h3.at hi
  rw [g1] at k1
  cases k1
  have e : opsL[op.toNat] = opRow op := by simp [opRow, List.getD, hi]
  rw [e] at k4
  obtain ⟨_, _, _, _, e1, _, ⟨rfl, _, _⟩, _, _, _, _, rfl, _, ⟨rfl, _⟩, _, _, _, _, rfl, _, ⟨rfl, _⟩, rfl, _⟩ := k4
  have e1 : (c.drop (s.o + op.toNat * 4)).take 4 = [.string (opWord op), .int .u8 (opKd op).toNat, .int .i64 (opTake op), .int .i64 (opPut op)] := e1
  have k3 : s.o + op.toNat * 4 + 4 ≤ c.length := k3
  refine ⟨by simpa using row_get e1 0 (by omega), by simpa using row_get e1 1 (by omega), by simpa using row_get e1 2 (by omega), by simpa using row_get e1 3 (by omega), ?_⟩
  unfold rowK
  simp only [if_pos k3, e1]
/-! ### The table as the statements lay it -/
theorem Fun1.int {P : Program} : Fun1 (fun H (d : DataW H) (v : Int) => d = .lit (.int .i64 v)) := fun H d x y h k => by rw [h] at k; cases k; rfl
theorem lit_inj {H : Type} {a b : Lit} (h : (DataW.lit a : DataW H) = .lit b) : a = b := by cases h; rfl
/-- What the table's datum says, row by row. -/
def TOpD (H : Type) (ds : List (DataW H)) (x : TOp) : Prop := ds = [.lit (.string x.1.data.toList), .lit (.int .u8 x.2.1.toNat), .lit (.int .i64 x.2.2.1), .lit (.int .i64 x.2.2.2)]
theorem TOpD.fun {H : Type} {ds : List (DataW H)} {x y : TOp} (h : TOpD H ds x) (k : TOpD H ds y) : x = y := by
  obtain ⟨⟨⟨a⟩⟩, b, c, d⟩ := x
  obtain ⟨⟨⟨a'⟩⟩, b', c', d'⟩ := y
  unfold TOpD at h k
  rw [h] at k
  simp only [List.cons.injEq, DataW.lit.injEq, Lit.string.injEq, Lit.int.injEq, true_and, and_true] at k
  obtain ⟨k1, k2, k3, k4⟩ := k
  have k2' : b = b' := by
    have : b.toNat = b'.toNat := by omega
    exact UInt8.toNat_inj.1 this
  subst k1 k2' k3 k4
  rfl
theorem AllD.map {H α : Type} {isd : DataW H → α → Prop} {l : List (DataW H)} : ∀ {ds : List (DataW H)} {xs ys : List α}, (∀ d x y, isd d x → isd d y → x = y) → AllD isd ds xs → AllD isd ds ys → xs = ys
  | [], [], [], _, _, _ => rfl
  | d :: ds, x :: xs, y :: ys, hf, h, k => by rw [hf d x y h.1 k.1, AllD.map (l := l) hf h.2 k.2]
  | [], [], _ :: _, _, _, k => k.elim
  | [], _ :: _, _, _, h, _ => h.elim
  | _ :: _, [], _, _, h, _ => h.elim
  | _ :: _, _ :: _, [], _, _, k => k.elim
theorem AllD.mono {H α : Type} {isd isd2 : DataW H → α → Prop} (hi : ∀ d x, isd d x → isd2 d x) : ∀ {ds : List (DataW H)} {xs : List α}, AllD isd ds xs → AllD isd2 ds xs
  | [], [], _ => trivial
  | d :: ds, x :: xs, h => ⟨hi d x h.1, AllD.mono hi h.2⟩
  | [], _ :: _, h => h.elim
  | _ :: _, [], h => h.elim
theorem flat_foot {A : AH} {s : Sl} {l : List TOp} {F : List Nat} (h : SlR A s l F) : ∀ b ∈ F, A.get b ≠ .dead := by
  cases h with
  | nil _ _ hF => subst hF; simp
  | empty _ _ _ _ hF => subst hF; simp
  | inB h =>
    obtain ⟨_, _, _, _, c, cs, G, h5, _, _, h8, rfl⟩ := h
    have hG : ∀ {l : List TOp} {cs : List Value} {G : List Nat}, Reps A l cs G → G = [] := by
      intro l cs G h
      induction h with
      | nil => rfl
      | cons h k ih =>
        obtain ⟨_, _, _, _, _, rfl, ⟨_, rfl, _⟩, _, _, _, _, _, rfl, ⟨_, rfl⟩, _, _, _, _, _, rfl, ⟨_, rfl⟩, _, rfl⟩ := h
        simpa using ih
    rw [hG h8]
    intro b hb
    rcases List.mem_cons.1 hb with rfl | hb
    · rw [h5]; intro e; cases e
    · cases hb
/-- The greatest number that an instruction may bear. -/
def mostN (op : Int) : Int := if opKd op = 110 then 2000 else if opKd op = 106 then 200 else 0
def InsOk (x : TIns) : Prop := 1 ≤ x.1 ∧ x.1 ≤ 15 ∧ x.2.1.size ≤ 2000 ∧ 0 ≤ x.2.2 ∧ x.2.2 ≤ mostN x.1 ∧ (opKd x.1 = 116 ∨ x.2.1 = ByteArray.empty)
instance (x : TIns) : Decidable (InsOk x) := by unfold InsOk; infer_instance
def ProgOk (p : TProgram) : Prop := 1 ≤ p.length ∧ p.length ≤ 200 ∧ ∀ x ∈ p, InsOk x
instance (p : TProgram) : Decidable (ProgOk p) := by unfold ProgOk; infer_instance
/-- The document's kinds: 1 a text, 2 a number, 3 a place. -/
def opNo (op : Int) : Int := if opKd op = 116 then 1 else if opKd op = 110 then 2 else if opKd op = 106 then 3 else 0
theorem op_cases {op : Int} (h1 : 1 ≤ op) (h2 : op ≤ 15) : op = 1 ∨ op = 2 ∨ op = 3 ∨ op = 4 ∨ op = 5 ∨ op = 6 ∨ op = 7 ∨ op = 8 ∨ op = 9 ∨ op = 10 ∨ op = 11 ∨ op = 12 ∨ op = 13 ∨ op = 14 ∨ op = 15 := by omega
theorem opWord_ne {op : Int} (h1 : 1 ≤ op) (h2 : op ≤ 15) : opWord op ≠ ⟨#[]⟩ := by
  rcases op_cases h1 h2 with rfl | rfl | rfl | rfl | rfl | rfl | rfl | rfl | rfl | rfl | rfl | rfl | rfl | rfl | rfl <;> (intro h; have := congrArg (·.size) h; revert this; decide)
theorem opRow_out {op : Int} (h : ¬ (1 ≤ op ∧ op ≤ 15)) : opRow op = (⟨#[]⟩, 0, 0, 0) := by
  unfold opRow
  by_cases h0 : op ≤ 0
  · have : op.toNat = 0 := by omega
    rw [this]; rfl
  · rw [List.getD_eq_getElem?_getD, List.getElem?_eq_none (by show 16 ≤ op.toNat; omega)]
    rfl
/-- The kinds in plain numbers: what is most, what is a text. -/
theorem kd_cases (op : Int) : (((opKd op).toNat : Int) = 116 ∧ mostN op = 0 ∧ opNo op = 1) ∨ (((opKd op).toNat : Int) = 110 ∧ mostN op = 2000 ∧ opNo op = 2) ∨ (((opKd op).toNat : Int) = 106 ∧ mostN op = 200 ∧ opNo op = 3) ∨ (((opKd op).toNat : Int) = 0 ∧ mostN op = 0 ∧ opNo op = 0) := by
  by_cases h : 1 ≤ op ∧ op ≤ 15
  · rcases op_cases h.1 h.2 with rfl | rfl | rfl | rfl | rfl | rfl | rfl | rfl | rfl | rfl | rfl | rfl | rfl | rfl | rfl <;> decide
  · simp [mostN, opNo, opKd, opRow_out h]
theorem kd_text (op : Int) : opKd op = 116 ↔ ((opKd op).toNat : Int) = 116 := by
  constructor
  · intro h; rw [h]; rfl
  · intro h
    have h' : (opKd op).toNat = 116 := by omega
    exact UInt8.toNat_inj.1 h'
theorem InsOk_iff (x : TIns) : InsOk x ↔ 1 ≤ x.1 ∧ x.1 ≤ 15 ∧ x.2.1.size ≤ 2000 ∧ 0 ≤ x.2.2 ∧ x.2.2 ≤ mostN x.1 ∧ (((opKd x.1).toNat : Int) = 116 ∨ x.2.1 = ByteArray.empty) := by
  unfold InsOk
  rw [kd_text]
/-- An instruction of a program's list. -/
theorem SlR.ins {A : AH} {s : Sl} {l : List TIns} {F : List Nat} (h : SlR A s l F) {i : Nat} (hi : i < l.length) : s.nl = false ∧ s.b < A.size ∧ i < s.len ∧
    rowK (s.o + i * 3) 3 (A.get s.b) = some [.int .i64 l[i].1, .string l[i].2.1, .int .i64 l[i].2.2] ∧ l[i].2.1.size < 4611686018427387904 := by
  obtain ⟨n1, b1, m1, i1, cs, Fi, c1, q1, _⟩ := h.row hi
  rw [aRow_eq] at c1
  obtain ⟨rfl, _, z⟩ := rep_Ins.1 q1
  exact ⟨n1, b1, i1, c1, big_lt z⟩
theorem all_take_succ {α : Type} {p : α → Prop} {l : List α} {i : Nat} (hi : i < l.length) : (∀ x ∈ l.take (i + 1), p x) ↔ (∀ x ∈ l.take i, p x) ∧ p l[i] := by
  rw [List.take_succ_eq_append_getElem hi]
  simp only [List.mem_append, List.mem_singleton]
  exact ⟨fun h => ⟨fun x hx => h x (.inl hx), h _ (.inr rfl)⟩, fun h x hx => by rcases hx with hx | rfl; exact h.1 x hx; exact h.2⟩
end Go.AM
