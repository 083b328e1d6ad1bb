/- Plain: spaces: which are valid. -/
import Derived.Test.YtcdnlghlbljopaaDoorAmV
namespace Go.AM
open Go
set_option linter.unusedVariables false
set_option linter.unusedSimpArgs false
/-- Texts, each above the one ahead of it. -/
def Asc : List ByteArray → Prop
  | [] => True
  | [_] => True
  | a :: b :: r => slt a b ∧ Asc (b :: r)
instance Asc.dec : (l : List ByteArray) → Decidable (Asc l)
  | [] => isTrue trivial
  | [_] => isTrue trivial
  | a :: b :: r => by unfold Asc; exact @instDecidableAnd _ _ _ (Asc.dec (b :: r))
theorem Asc.snoc : ∀ {l : List ByteArray} {a b : ByteArray}, Asc (l ++ [a] ++ [b]) ↔ Asc (l ++ [a]) ∧ slt a b
  | [], a, b => by simp [Asc]
  | [x], a, b => by simp [Asc, and_comm]
  | x :: y :: r, a, b => by
    have := Asc.snoc (l := y :: r) (a := a) (b := b)
    simp only [List.cons_append, Asc] at this ⊢
    rw [this, and_assoc]
theorem ascStep {α : Type} (f : α → ByteArray) {l : List α} {i : Nat} (hi : i < l.length) : Asc ((l.take (i + 1)).map f) ↔ Asc ((l.take i).map f) ∧ (i = 0 ∨ slt (f (l[i - 1]'(by omega))) (f l[i])) := by
  cases i with
  | zero => rw [List.take_succ_eq_append_getElem hi]; simp [Asc]
  | succ i =>
    rw [List.take_succ_eq_append_getElem hi, List.take_succ_eq_append_getElem (by omega : i < l.length)]
    simp only [List.map_append, List.map_cons, List.map_nil]
    rw [Asc.snoc]
    simp
theorem Asc.take : ∀ {l : List ByteArray} (i : Nat), Asc l → Asc (l.take i)
  | [], i, h => by simpa using h
  | [x], 0, h => trivial
  | [x], i + 1, h => by simpa using h
  | x :: y :: r, 0, h => trivial
  | x :: y :: r, 1, h => trivial
  | x :: y :: r, i + 2, h => by
    have := Asc.take (i + 1) h.2
    simp only [List.take_succ_cons, Asc] at this ⊢
    exact ⟨h.1, this⟩
theorem Asc.takeMap {α : Type} {f : α → ByteArray} {l : List α} (i : Nat) (h : Asc (l.map f)) : Asc ((l.take i).map f) := by
  rw [List.map_take]
  exact Asc.take i h
theorem arrAddr (P : Program) (t : TypeId) (a : Addr) (k : IntKind) (i : Int) : aIndexAddr P t (.pointer (some a)) (.int k i) = (tArray P t).bind fun q => if 0 ≤ i ∧ i < q.1 then some (.pointer (some (a.add (i.toNat * q.2.2)))) else none := by
  unfold aIndexAddr
  cases tArray P t with
  | none => rfl
  | some q => rfl
theorem arrIdx (P : Program) (t : TypeId) (cs : Array Value) (k : IntKind) (i : Int) (n : Nat) (e : TypeId) (ht : tArray P t = some (n, e, 1)) (he : tAgg P e = some false) (hi : 0 ≤ i ∧ i < n) : aIndex P t (.agg cs) (.int k i) = cs.toList[i.toNat]? := by
  unfold aIndex
  simp only [ht, he, true_and, hi, and_self, if_true]
theorem take1 {c : List Value} {o : Nat} {v : Value} (h : c[o]? = some v) : List.take 1 (List.drop o c) = [v] := by
  have : (List.drop o c)[0]? = some v := by rw [List.getElem?_drop]; exact h
  cases hd : List.drop o c with
  | nil => rw [hd] at this; cases this
  | cons a r => rw [hd] at this; cases this; rfl
theorem sle_false {a b : ByteArray} : (Op.bytesLess b.toList a.toList || decide (b = a)) = false ↔ slt a b := by
  constructor
  · intro h
    refine Classical.byContradiction fun k => ?_
    rw [sle_facts.2 k] at h
    cases h
  · intro h
    obtain ⟨h1, h2⟩ := sle_facts.1 h
    simp [h1, h2]
def namesOf {α : Type} (l : List (ByteArray × α)) : List ByteArray := l.map (·.1)
/-- What is wrong with a space: 0 nothing. -/
def spaceCode (sp : TSpace) : Int :=
  if 200 < sp.1.length + sp.2.length then 1
  else if ¬ ((∀ x ∈ sp.1, NameOk x.1) ∧ ∀ x ∈ sp.2, NameOk x.1) then 2
  else if ¬ Asc (sp.1.map (·.1)) then 3
  else if ¬ Asc (sp.2.map (·.1)) then 4
  else if ¬ (∀ x ∈ sp.2, ∀ y ∈ sp.1, y.1 ≠ x.1) then 5
  else if ¬ (∀ x ∈ sp.1, x.2.size ≤ 2000) then 6
  else if ¬ (∀ x ∈ sp.2, ProgOk x.2) then 7
  else 0
theorem SlR.cells {α : Type} [Dat α] {A : AH} {s : Sl} {l : List α} {F : List Nat} (h : SlR A s l F) {i : Nat} (hi : i < l.length) : ∃ c cs Fi, s.nl = false ∧ s.b < A.size ∧ i < s.len ∧ A.get s.b = .cells c (Dat.w α) ∧ s.o + i * Dat.w α + Dat.w α ≤ c.length ∧
    (c.drop (s.o + i * Dat.w α)).take (Dat.w α) = cs ∧ Dat.rep A l[i] cs Fi ∧ (∀ b ∈ Fi, b ∈ F) ∧ rowK (s.o + i * Dat.w α) (Dat.w α) (.cells c (Dat.w α)) = some cs := by
  obtain ⟨n1, b1, c, Fi, g1, _, g3, g4, _, g6⟩ := h.at hi
  refine ⟨c, _, Fi, n1, b1, by rw [h.len]; exact hi, g1, g3, rfl, g4, g6, ?_⟩
  unfold rowK
  simp only [if_pos g3]
/-- A source of a list: its cells. -/
theorem SlR.source {A : AH} {s : Sl} {l : List TSource} {F : List Nat} (h : SlR A s l F) {i : Nat} (hi : i < l.length) : ∃ c, s.nl = false ∧ s.b < A.size ∧ i < s.len ∧ A.get s.b = .cells c 2 ∧
    c[s.o + i * 2]? = some (.string l[i].1) ∧ c[s.o + i * 2 + 1]? = some (.string l[i].2) ∧ rowK (s.o + i * 2) 2 (.cells c 2) = some [.string l[i].1, .string l[i].2] ∧ l[i].1.size < 4611686018427387904 ∧ l[i].2.size < 4611686018427387904 := by
  obtain ⟨c, cs, Fi, n1, b1, i1, g1, g2, g3, g4, _, g6⟩ := h.cells hi
  obtain ⟨rfl, _, z1, z2⟩ := rep_Source.1 g4
  exact ⟨c, n1, b1, i1, g1, row_get g3 0 (by decide), row_get g3 1 (by decide), g6, big_lt z1, big_lt z2⟩
/-- A target of a list: its cells. -/
theorem SlR.target {A : AH} {s : Sl} {l : List TTarget} {F : List Nat} (h : SlR A s l F) {i : Nat} (hi : i < l.length) : ∃ c t G, s.nl = false ∧ s.b < A.size ∧ i < s.len ∧ A.get s.b = .cells c 2 ∧
    c[s.o + i * 2]? = some (.string l[i].1) ∧ c[s.o + i * 2 + 1]? = some t.v ∧ rowK (s.o + i * 2) 2 (.cells c 2) = some [.string l[i].1, t.v] ∧ l[i].1.size < 4611686018427387904 ∧ SlR A t l[i].2 G ∧ (∀ b ∈ G, b ∈ F) ∧ s.o + i * 2 + 2 ≤ c.length := by
  obtain ⟨c, cs, Fi, n1, b1, i1, g1, g2, g3, g4, g5, g6⟩ := h.cells hi
  obtain ⟨t, G, rfl, rfl, z1, h1⟩ := rep_Target.1 g4
  exact ⟨c, t, _, n1, b1, i1, g1, row_get g3 0 (by decide), row_get g3 1 (by decide), g6, big_lt z1, h1, g5, g2⟩
/-- The first place with a name, from a place on; -1 if there is none. -/
def placeOf {α : Type} (n : ByteArray) (l : List (ByteArray × α)) : Int := match l.findIdx? (fun x => decide (x.1 = n)) with | some i => i | none => -1
theorem placeOf_none {α : Type} {n : ByteArray} {l : List (ByteArray × α)} (h : ∀ x ∈ l, x.1 ≠ n) : placeOf n l = -1 := by
  have : l.findIdx? (fun x => decide (x.1 = n)) = none := by
    rw [List.findIdx?_eq_none_iff]
    intro x hx
    simpa using h x hx
  rw [placeOf, this]
theorem placeOf_some {α : Type} {n : ByteArray} {l : List (ByteArray × α)} {i : Nat} (hi : i < l.length) (h : ∀ x ∈ l.take i, x.1 ≠ n) (he : l[i].1 = n) : placeOf n l = i := by
  have : l.findIdx? (fun x => decide (x.1 = n)) = some i := by
    rw [List.findIdx?_eq_some_iff_getElem]
    refine ⟨hi, by simpa using he, fun j hj => ?_⟩
    have := h l[j] (by rw [List.mem_take_iff_getElem]; exact ⟨j, by omega, rfl⟩)
    simpa using this
  rw [placeOf, this]
theorem placeOf_range {α : Type} (n : ByteArray) (l : List (ByteArray × α)) : (placeOf n l = -1 ∧ ∀ x ∈ l, x.1 ≠ n) ∨ ∃ i, ∃ h : i < l.length, placeOf n l = i ∧ l[i].1 = n := by
  cases hf : l.findIdx? (fun x => decide (x.1 = n)) with
  | none =>
    rw [List.findIdx?_eq_none_iff] at hf
    exact .inl ⟨placeOf_none fun x hx => by simpa using hf x hx, fun x hx => by simpa using hf x hx⟩
  | some i =>
    have h2 := hf
    rw [List.findIdx?_eq_some_iff_getElem] at h2
    obtain ⟨hi, he, _⟩ := h2
    exact .inr ⟨i, hi, by rw [placeOf, hf], by simpa using he⟩
end Go.AM
