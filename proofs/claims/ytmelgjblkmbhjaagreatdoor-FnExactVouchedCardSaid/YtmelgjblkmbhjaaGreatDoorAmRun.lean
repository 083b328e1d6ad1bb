/- Plain: spaces, stores, runs of programs, vouching; the abstract machine in use: slices of slices, stacks. -/
import Derived.Test.YtmelgjblkmbhjaaGreatDoorAmTX
namespace Go.AM
open Go
set_option linter.unusedVariables false
set_option linter.unusedSimpArgs false
def wo {α : Type} (n : ByteArray) (l : List (ByteArray × α)) : List (ByteArray × α) := l.filter fun x => decide (x.1 ≠ n)
theorem wo_take_succ {α : Type} (n : ByteArray) {l : List (ByteArray × α)} {i : Nat} (hi : i < l.length) : wo n (l.take (i + 1)) = wo n (l.take i) ++ (if l[i].1 = n then [] else [l[i]]) := by
  unfold wo
  rw [List.take_succ_eq_append_getElem hi, List.filter_append]
  by_cases h : l[i].1 = n
  · simp [h]
  · simp [h]
theorem wo_length {α : Type} (n : ByteArray) (l : List (ByteArray × α)) : (wo n l).length ≤ l.length := List.length_filter_le _ _
theorem wo_length_iff {α : Type} (n : ByteArray) (l : List (ByteArray × α)) : (wo n l).length = l.length ↔ ∀ x ∈ l, x.1 ≠ n := by
  unfold wo
  rw [List.length_filter_eq_length_iff]
  simp
theorem wo_mem {α : Type} {n : ByteArray} {l : List (ByteArray × α)} {x : ByteArray × α} : x ∈ wo n l ↔ x ∈ l ∧ x.1 ≠ n := by
  unfold wo
  simp
def withoutR (x : TSpace) (n : ByteArray) : TSpace := (wo n x.1, wo n x.2)
/-- Something lies under the name. -/
def lies (x : TSpace) (n : ByteArray) : Prop := ¬ ((∀ s ∈ x.1, s.1 ≠ n) ∧ ∀ t ∈ x.2, t.1 ≠ n)
instance (x : TSpace) (n : ByteArray) : Decidable (lies x n) := by unfold lies; infer_instance
theorem lies_size (x : TSpace) (n : ByteArray) : ((wo n x.1).length + (wo n x.2).length : Int) = x.1.length + x.2.length ↔ ¬ lies x n := by
  have h1 := wo_length n x.1
  have h2 := wo_length n x.2
  unfold lies
  rw [Classical.not_not, ← wo_length_iff, ← wo_length_iff]
  omega
def zeroSp : TSpace := ([], [])
def dropR (x : TSpace) (n : ByteArray) : TSpace × Int :=
  if spaceCode x ≠ 0 then (zeroSp, 1) else if ¬ NameOk n then (zeroSp, 2) else if lies x n then (withoutR x n, 0) else (zeroSp, 4)
theorem szL_filter {α : Type} (f : α → Nat) (p : α → Bool) (l : List α) : szL f (l.filter p) ≤ szL f l := by
  induction l with
  | nil => exact Nat.le_refl _
  | cons x l ih =>
    rw [List.filter_cons]
    split
    · rw [szL_cons', szL_cons']; omega
    · rw [szL_cons']; omega
theorem withoutR_sz (x : TSpace) (n : ByteArray) : Mk.sz (withoutR x n) ≤ Mk.sz x := by
  have h1 : szL Mk.sz (wo n x.1) ≤ szL Mk.sz x.1 := szL_filter _ _ _
  have h2 : szL Mk.sz (wo n x.2) ≤ szL Mk.sz x.2 := szL_filter _ _ _
  show szL Mk.sz (wo n x.1) + szL Mk.sz (wo n x.2) ≤ szL Mk.sz x.1 + szL Mk.sz x.2
  omega
theorem dropR_sz (x : TSpace) (n : ByteArray) : Mk.sz (dropR x n).1 ≤ Mk.sz x := by
  have h := withoutR_sz x n
  have h0 : Mk.sz zeroSp = 0 := rfl
  unfold dropR
  split
  · show Mk.sz zeroSp ≤ _; omega
  · split
    · show Mk.sz zeroSp ≤ _; omega
    · split
      · exact h
      · show Mk.sz zeroSp ≤ _; omega
theorem Acc.lt {α : Type} [Dat α] {lo : Nat} {A : AH} {s : Sl} {l : List α} {G : List Nat} (h : Acc lo A s l G) (hl : l ≠ []) : s.nl = false ∧ lo ≤ s.b ∧ s.b < A.size := by
  cases h with
  | nil => exact absurd rfl hl
  | empty b o => exact absurd rfl hl
  | own h1 h2 h3 h4 h5 h6 h7 => exact ⟨rfl, h1, h2⟩
theorem mem_sz {l : List TTarget} {t : TTarget} (h : t ∈ l) : t.2.length ≤ szL Mk.sz l := by
  obtain ⟨i, hi, rfl⟩ := List.mem_iff_getElem.1 h
  have h1 := szL_get Mk.sz l i hi
  have h2 := szL_length Mk.sz l[i].2
  have e : Mk.sz l[i] = l[i].1.size + szL Mk.sz l[i].2 := rfl
  omega
end Go.AM
namespace Go.AM
open Go
set_option linter.unusedVariables false
set_option linter.unusedSimpArgs false
/-! ### Words -/
def gapAt (s : ByteArray) (i : Nat) : Bool := decide (i = s.size) || (decide (((bget s i).toNat : Int) = 32) || decide (((bget s i).toNat : Int) = 10))
/-- The pieces from a place on; one may be open. -/
def piecesN (s : ByteArray) : Nat → Nat → Option Nat → List ByteArray
  | 0, _, _ => []
  | k + 1, i, none => if gapAt s i then piecesN s k (i + 1) none else piecesN s k (i + 1) (some i)
  | k + 1, i, some f => if gapAt s i then s.extract f i :: piecesN s k (i + 1) none else piecesN s k (i + 1) (some f)
def piecesR (s : ByteArray) (i : Nat) (o : Option Nat) : List ByteArray := piecesN s (s.size + 1 - i) i o
theorem piecesR_end {s : ByteArray} {i : Nat} (h : s.size < i) (o : Option Nat) : piecesR s i o = [] := by
  unfold piecesR; rw [show s.size + 1 - i = 0 by omega]; cases o <;> rfl
theorem piecesR_none {s : ByteArray} {i : Nat} (h : i ≤ s.size) : piecesR s i none = if gapAt s i then piecesR s (i + 1) none else piecesR s (i + 1) (some i) := by
  unfold piecesR; rw [show s.size + 1 - i = (s.size + 1 - (i + 1)) + 1 by omega]; rfl
theorem piecesR_some {s : ByteArray} {i f : Nat} (h : i ≤ s.size) : piecesR s i (some f) = if gapAt s i then s.extract f i :: piecesR s (i + 1) none else piecesR s (i + 1) (some f) := by
  unfold piecesR; rw [show s.size + 1 - i = (s.size + 1 - (i + 1)) + 1 by omega]; rfl
def wordR (s : ByteArray) (n : Nat) : ByteArray := (piecesR s 0 none).getD n ⟨#[]⟩
/-! ### One instruction -/
def flagS (b : Bool) : ByteArray := if b then ⟨#[49]⟩ else ⟨#[48]⟩
structure Mach where
  pc : Nat
  st : List ByteArray
  steps : Nat
  looks : Nat
inductive Tick where
  | fin (code : Int) (text : ByteArray) (steps : Nat)
  | go (m : Mach)
  | look (ask : Bool) (name : ByteArray) (m : Mach)
/-- What an instruction puts; a is the top, b the one below it. -/
def plainR (x : TIns) (a b : ByteArray) : List ByteArray :=
  if x.1 = 1 then [x.2.1] else if x.1 = 2 then [b ++ a] else if x.1 = 3 then [a.extract 0 (min x.2.2.toNat a.size)] else if x.1 = 4 then [a.extract (min x.2.2.toNat a.size) a.size] else
  if x.1 = 5 then [wordR a x.2.2.toNat] else if x.1 = 6 then [flagS (decide (b = a))] else if x.1 = 7 then [a, a] else if x.1 = 8 then [a, b] else []
def topA (l : List ByteArray) : ByteArray := l.getD (l.length - 1) ⟨#[]⟩
def topB (l : List ByteArray) : ByteArray := l.getD (l.length - 2) ⟨#[]⟩
def tooFew (x : TIns) (l : List ByteArray) : Prop := l.length < (opTake x.1).toNat ∨ 50 < l.length - (opTake x.1).toNat + (opPut x.1).toNat
instance (x : TIns) (l : List ByteArray) : Decidable (tooFew x l) := by unfold tooFew; infer_instance
def restR (x : TIns) (l : List ByteArray) : List ByteArray := l.take (l.length - (opTake x.1).toNat)
def insR (x : TIns) (m : Mach) : Tick :=
  if x.1 = 14 then .fin 1 (topA m.st) (m.steps + 1) else if x.1 = 15 then .fin 0 (topA m.st) (m.steps + 1) else
  if x.1 = 12 ∨ x.1 = 13 then
    (if ¬ NameOk (topA m.st) then .fin 2 (decS m.pc) (m.steps + 1) else if m.looks = 200 then .fin 3 ⟨#[]⟩ (m.steps + 1) else .look (decide (x.1 = 12)) (topA m.st) ⟨m.pc + 1, restR x m.st, m.steps + 1, m.looks + 1⟩)
  else if x.1 = 10 then .go ⟨x.2.2.toNat, restR x m.st, m.steps + 1, m.looks⟩
  else if x.1 = 11 then .go ⟨if topA m.st = ⟨#[]⟩ ∨ topA m.st = ⟨#[48]⟩ then x.2.2.toNat else m.pc + 1, restR x m.st, m.steps + 1, m.looks⟩
  else if ∀ s ∈ plainR x (topA m.st) (topB m.st), s.size ≤ 2000 then .go ⟨m.pc + 1, restR x m.st ++ plainR x (topA m.st) (topB m.st), m.steps + 1, m.looks⟩
  else .fin 2 (decS m.pc) (m.steps + 1)
def tickR (p : TProgram) (m : Mach) : Tick :=
  match p[m.pc]? with
  | none => .fin 2 (decS m.pc) m.steps
  | some x => if m.steps = 2000 then .fin 3 ⟨#[]⟩ m.steps else if tooFew x m.st then .fin 2 (decS m.pc) (m.steps + 1) else insR x m
def runN (p : TProgram) : Nat → Mach → Tick
  | 0, m => .fin 3 ⟨#[]⟩ m.steps
  | k + 1, m => match tickR p m with
    | .go m' => runN p k m'
    | t => t
def runR (p : TProgram) (m : Mach) : Tick := runN p (2001 - m.steps) m
theorem insR_go {x : TIns} {m m' : Mach} (h : insR x m = .go m') : m'.steps = m.steps + 1 ∧ m'.looks = m.looks := by
  unfold insR at h
  repeat' split at h
  all_goals first | (cases h; exact ⟨rfl, rfl⟩) | cases h
theorem tickR_go {p : TProgram} {m m' : Mach} (h : tickR p m = .go m') : m.steps ≠ 2000 ∧ m'.steps = m.steps + 1 ∧ m'.looks = m.looks := by
  unfold tickR at h
  cases hp : p[m.pc]? with
  | none => rw [hp] at h; cases h
  | some x =>
    rw [hp] at h
    simp only at h
    repeat' split at h
    · cases h
    · cases h
    · exact ⟨by assumption, insR_go h⟩
theorem runR_eq {p : TProgram} {m : Mach} (h : m.steps ≤ 2000) : runR p m = match tickR p m with | .go m' => runR p m' | t => t := by
  unfold runR
  rw [show 2001 - m.steps = (2000 - m.steps) + 1 by omega, runN]
  cases ht : tickR p m with
  | go m' =>
    have := tickR_go ht
    simp only
    rw [show 2001 - m'.steps = 2000 - m.steps by omega]
  | fin => rfl
  | look => rfl
/-- A run that is going on. -/
structure MachOk (m : Mach) : Prop where
  pc : m.pc ≤ 200
  st : m.st.length ≤ 50
  txt : ∀ s ∈ m.st, s.size ≤ 2000
  steps : m.steps ≤ 2000
  looks : m.looks ≤ 200
def m0 : Mach := ⟨0, [], 0, 0⟩
theorem m0_ok : MachOk m0 := ⟨by decide, by decide, (by intro s h; cases h), by decide, by decide⟩
theorem restR_sub {x : TIns} {l : List ByteArray} {s : ByteArray} (h : s ∈ restR x l) : s ∈ l := List.mem_of_mem_take h
theorem restR_len (x : TIns) (l : List ByteArray) : (restR x l).length = l.length - (opTake x.1).toNat := by
  unfold restR; rw [List.length_take]; omega
theorem plainR_len (x : TIns) (h : 1 ≤ x.1 ∧ x.1 ≤ 9) (a b : ByteArray) : (plainR x a b).length = (opPut x.1).toNat := by
  obtain ⟨o, t, n⟩ := x
  simp only at h
  have : o = 1 ∨ o = 2 ∨ o = 3 ∨ o = 4 ∨ o = 5 ∨ o = 6 ∨ o = 7 ∨ o = 8 ∨ o = 9 := by omega
  rcases this with rfl | rfl | rfl | rfl | rfl | rfl | rfl | rfl | rfl <;> rfl
theorem topA_mem {l : List ByteArray} (h : 0 < l.length) : topA l ∈ l := by
  unfold topA
  rw [List.getD_eq_getElem?_getD, List.getElem?_eq_getElem (by omega)]
  exact List.getElem_mem _
theorem opPut_look : (opPut 12).toNat = 1 ∧ (opPut 13).toNat = 1 ∧ (opTake 12).toNat = 1 ∧ (opTake 13).toNat = 1 := ⟨rfl, rfl, rfl, rfl⟩
theorem tickR_ok {p : TProgram} (hp : ProgOk p) {m : Mach} (h : MachOk m) :
    (∀ m', tickR p m = .go m' → MachOk m') ∧ (∀ a n m', tickR p m = .look a n m' → NameOk n ∧ MachOk m' ∧ m'.st.length < 50) ∧ (∀ c t s, tickR p m = .fin c t s → 0 ≤ c ∧ c ≤ 3 ∧ t.size ≤ 2000 ∧ s ≤ 2000) := by
  have hdec : (decS m.pc).size ≤ 2000 := by have := decS_size m.pc; have := h.pc; omega
  have htop : (topA m.st).size ≤ 2000 := by
    by_cases h0 : 0 < m.st.length
    · exact h.txt _ (topA_mem h0)
    · have : m.st = [] := by cases hm : m.st with | nil => rfl | cons a l => rw [hm] at h0; simp at h0
      rw [this]; show 0 ≤ _; omega
  have e0 : (⟨#[]⟩ : ByteArray).size ≤ 2000 := by decide
  unfold tickR
  cases hx : p[m.pc]? with
  | none => exact ⟨fun _ k => by (cases k), fun _ _ _ k => by (cases k), fun c t s k => by cases k; exact ⟨by omega, by omega, hdec, h.steps⟩⟩
  | some x =>
    simp only
    obtain ⟨hi, rfl⟩ := List.getElem?_eq_some_iff.1 hx
    have hI := hp.2.2 _ (List.getElem_mem hi)
    have hlen := hp.2.1
    generalize p[m.pc] = x at hI
    have hN : x.2.2.toNat ≤ 2000 := by
      have := hI.2.2.2.2.1
      have h2 : mostN x.1 ≤ 2000 := by unfold mostN; split; omega; split <;> omega
      omega
    have hJ : x.1 = 10 ∨ x.1 = 11 → x.2.2.toNat ≤ 200 := by
      have := hI.2.2.2.2.1
      rintro (e | e) <;> rw [e] at this <;> (have h2 : mostN 10 = 200 := rfl; have h3 : mostN 11 = 200 := rfl; omega)
    by_cases hs : m.steps = 2000
    · rw [if_pos hs]
      exact ⟨fun _ k => by (cases k), fun _ _ _ k => by (cases k), fun c t s k => by cases k; exact ⟨by omega, by omega, e0, h.steps⟩⟩
    rw [if_neg hs]
    by_cases hf : tooFew x m.st
    · rw [if_pos hf]
      exact ⟨fun _ k => by (cases k), fun _ _ _ k => by (cases k), fun c t s k => by cases k; exact ⟨by omega, by omega, hdec, by have := h.steps; omega⟩⟩
    rw [if_neg hf]
    have hst := h.steps
    have hlk := h.looks
    have hsl := h.st
    have hr : ∀ s ∈ restR x m.st, s.size ≤ 2000 := fun s hs => h.txt s (restR_sub hs)
    have hrl := restR_len x m.st
    have hf1 : ¬ m.st.length < (opTake x.1).toNat := fun k => hf (.inl k)
    have hf2 : ¬ 50 < m.st.length - (opTake x.1).toNat + (opPut x.1).toNat := fun k => hf (.inr k)
    unfold insR
    by_cases k14 : x.1 = 14
    · rw [if_pos k14]; exact ⟨fun _ k => by (cases k), fun _ _ _ k => by (cases k), fun c t s k => by cases k; exact ⟨by omega, by omega, htop, by omega⟩⟩
    rw [if_neg k14]
    by_cases k15 : x.1 = 15
    · rw [if_pos k15]; exact ⟨fun _ k => by (cases k), fun _ _ _ k => by (cases k), fun c t s k => by cases k; exact ⟨by omega, by omega, htop, by omega⟩⟩
    rw [if_neg k15]
    by_cases kl : x.1 = 12 ∨ x.1 = 13
    · rw [if_pos kl]
      by_cases kn : ¬ NameOk (topA m.st)
      · rw [if_pos kn]; exact ⟨fun _ k => by (cases k), fun _ _ _ k => by (cases k), fun c t s k => by cases k; exact ⟨by omega, by omega, hdec, by omega⟩⟩
      rw [if_neg kn]
      by_cases k200 : m.looks = 200
      · rw [if_pos k200]; exact ⟨fun _ k => by (cases k), fun _ _ _ k => by (cases k), fun c t s k => by cases k; exact ⟨by omega, by omega, e0, by omega⟩⟩
      rw [if_neg k200]
      have ht1 : (opTake x.1).toNat = 1 := by rcases kl with e | e <;> rw [e] <;> rfl
      refine ⟨fun _ k => by (cases k), fun a n m' k => ?_, fun c t s k => by (cases k)⟩
      cases k
      refine ⟨Classical.not_not.1 kn, ⟨by show m.pc + 1 ≤ 200; omega, by show (restR x m.st).length ≤ 50; omega, hr, by show m.steps + 1 ≤ 2000; omega, by show m.looks + 1 ≤ 200; omega⟩, by show (restR x m.st).length < 50; omega⟩
    rw [if_neg kl]
    by_cases k10 : x.1 = 10
    · rw [if_pos k10]
      exact ⟨fun m' k => by cases k; exact ⟨hJ (.inl k10), by show (restR x m.st).length ≤ 50; omega, hr, by show m.steps + 1 ≤ 2000; omega, hlk⟩, fun _ _ _ k => by (cases k), fun c t s k => by (cases k)⟩
    rw [if_neg k10]
    by_cases k11 : x.1 = 11
    · rw [if_pos k11]
      refine ⟨fun m' k => ?_, fun _ _ _ k => by (cases k), fun c t s k => by (cases k)⟩
      cases k
      refine ⟨?_, by show (restR x m.st).length ≤ 50; omega, hr, by show m.steps + 1 ≤ 2000; omega, hlk⟩
      have hq : ∀ (q : Prop) [Decidable q], (if q then x.2.2.toNat else m.pc + 1) ≤ 200 := fun q _ => by
        by_cases hq : q
        · rw [if_pos hq]; exact hJ (.inr k11)
        · rw [if_neg hq]; omega
      exact hq _
    rw [if_neg k11]
    by_cases kp : ∀ s ∈ plainR x (topA m.st) (topB m.st), s.size ≤ 2000
    · rw [if_pos kp]
      refine ⟨fun m' k => ?_, fun _ _ _ k => by (cases k), fun c t s k => by (cases k)⟩
      cases k
      have hpl := plainR_len x (by have := hI.1; have := hI.2.1; omega) (topA m.st) (topB m.st)
      refine ⟨by show m.pc + 1 ≤ 200; omega, ?_, ?_, by show m.steps + 1 ≤ 2000; omega, hlk⟩
      · show (restR x m.st ++ plainR x (topA m.st) (topB m.st)).length ≤ 50
        rw [List.length_append]; omega
      · intro s hs
        rcases List.mem_append.1 hs with h1 | h1
        · exact hr s h1
        · exact kp s h1
    · rw [if_neg kp]; exact ⟨fun _ k => by (cases k), fun _ _ _ k => by (cases k), fun c t s k => by cases k; exact ⟨by omega, by omega, hdec, by omega⟩⟩
/-! ### Whole runs -/
/-- What stands behind a run that stops. -/
def TickOk : Tick → Prop
  | .fin c t s => 0 ≤ c ∧ c ≤ 5 ∧ t.size ≤ 2000 ∧ s ≤ 2000
  | .look a n m => NameOk n ∧ MachOk m ∧ m.st.length < 50
  | .go _ => False
theorem runN_ok {p : TProgram} (hp : ProgOk p) : ∀ (k : Nat) (m : Mach), MachOk m → TickOk (runN p k m)
  | 0, m, h => ⟨by omega, by omega, by decide, h.steps⟩
  | k + 1, m, h => by
    have hk := tickR_ok hp h
    unfold runN
    cases ht : tickR p m with
    | go m' => exact runN_ok hp k m' (hk.1 m' ht)
    | fin c t s => have := hk.2.2 c t s ht; exact ⟨this.1, by omega, this.2.2.1, this.2.2.2⟩
    | look a n m' => exact hk.2.1 a n m' ht
theorem runR_ok {p : TProgram} (hp : ProgOk p) {m : Mach} (h : MachOk m) : TickOk (runR p m) := runN_ok hp _ m h
/-- A look is answered. -/
def toldR (p : TProgram) (ask : Bool) (name : ByteArray) (m : Mach) (r : TReply) : Tick :=
  if ask = false then runR p ⟨m.pc, m.st ++ [flagS r.1], m.steps, m.looks⟩
  else if r.1 = false then .fin 4 name m.steps else if r.2.1 ≠ 0 then .fin 5 name m.steps else runR p ⟨m.pc, m.st ++ [r.2.2], m.steps, m.looks⟩
theorem push_ok {m : Mach} (h : MachOk m) (hl : m.st.length < 50) {s : ByteArray} (hs : s.size ≤ 2000) : MachOk ⟨m.pc, m.st ++ [s], m.steps, m.looks⟩ :=
  ⟨h.pc, by show (m.st ++ [s]).length ≤ 50; rw [List.length_append]; simp only [List.length_cons, List.length_nil]; omega, fun x hx => by
    rcases List.mem_append.1 hx with h1 | h1
    · exact h.txt x h1
    · rw [List.mem_singleton.1 h1]; exact hs, h.steps, h.looks⟩
theorem flagS_size (b : Bool) : (flagS b).size = 1 := by cases b <;> rfl
theorem name_size {n : ByteArray} (h : NameOk n) : n.size ≤ 60 := h.2.1
theorem toldR_ok {p : TProgram} (hp : ProgOk p) {a : Bool} {n : ByteArray} {m : Mach} (h : TickOk (.look a n m)) {r : TReply} (hr : r.2.2.size ≤ 2000) : TickOk (toldR p a n m r) := by
  obtain ⟨h1, h2, h3⟩ := h
  have hn := name_size h1
  have hf := flagS_size r.1
  unfold toldR
  split
  · exact runR_ok hp (push_ok h2 h3 (by omega))
  · split
    · exact ⟨by omega, by omega, by omega, h2.steps⟩
    · split
      · exact ⟨by omega, by omega, by omega, h2.steps⟩
      · exact runR_ok hp (push_ok h2 h3 hr)
def playR (p : TProgram) : Tick → List TReply → Tick
  | .look a n m, r :: rs => playR p (toldR p a n m r) rs
  | t, _ => t
def turnOf : Tick → TTurn
  | .fin c t s => (true, c, t, false, ⟨#[]⟩, s)
  | .look a n m => (false, 0, ⟨#[]⟩, a, n, m.steps)
  | .go _ => (false, 0, ⟨#[]⟩, false, ⟨#[]⟩, 0)
def replyBad (r : TReply) : Prop := 2000 < r.2.2.size ∨ r.2.1 < 0 ∨ 7 < r.2.1
instance (r : TReply) : Decidable (replyBad r) := by unfold replyBad; infer_instance
def nextBad (p : TProgram) (l : List TReply) : Prop := ¬ ProgOk p ∨ 200 < l.length ∨ ¬ ∀ r ∈ l, ¬ replyBad r
instance (p : TProgram) (l : List TReply) : Decidable (nextBad p l) := by unfold nextBad; infer_instance
def startR (p : TProgram) : Tick := runR p m0
def nextR (p : TProgram) (l : List TReply) : TTurn := if nextBad p l then (false, 9, ⟨#[]⟩, false, ⟨#[]⟩, 0) else turnOf (playR p (startR p) l)
theorem startR_ok {p : TProgram} (hp : ProgOk p) : TickOk (startR p) := runR_ok hp m0_ok
theorem playR_ok {p : TProgram} (hp : ProgOk p) : ∀ (l : List TReply) (t : Tick), TickOk t → (∀ r ∈ l, r.2.2.size ≤ 2000) → TickOk (playR p t l)
  | [], t, h, _ => by cases t <;> exact h
  | r :: l, .fin _ _ _, h, _ => h
  | r :: l, .go _, h, _ => h.elim
  | r :: l, .look a n m, h, hr => playR_ok hp l _ (toldR_ok hp h (hr r (by simp))) (fun x hx => hr x (by simp [hx]))
theorem playR_app {p : TProgram} : ∀ (l k : List TReply) (t : Tick), playR p t (l ++ k) = playR p (playR p t l) k
  | [], k, t => by cases t <;> rfl
  | r :: l, k, .fin _ _ _ => by cases k <;> rfl
  | r :: l, k, .go _ => by cases k <;> rfl
  | r :: l, k, .look a n m => playR_app l k _
end Go.AM
namespace Go.AM
open Go
set_option linter.unusedVariables false
set_option linter.unusedSimpArgs false
inductive PutKind where
  | same
  | clash (o : ByteArray)
  | full
  | put
/-- What becomes of a text that is put. -/
def putKind (w : Int) (l : List ByteArray) (t : ByteArray) : PutKind :=
  match getR w (sumS t w) l with
  | some o => if o = t then .same else .clash o
  | none => if 5000 ≤ l.length then .full else .put
def insR' (w : Int) (l : List ByteArray) (t : ByteArray) : List ByteArray := l.take (plc w (sumS t w) l) ++ t :: l.drop (plc w (sumS t w) l)
def zeroSt : TStore := (0, [], [])
/-- The store after a text was put, or why not. -/
def putR (x : TStore) (t : ByteArray) : TKept :=
  match putKind x.1 x.2.1 t with
  | .same => (0, x, ⟨#[]⟩, ⟨#[]⟩)
  | .clash o => (2, zeroSt, o, t)
  | .full => (3, zeroSt, ⟨#[]⟩, ⟨#[]⟩)
  | .put => (0, (x.1, insR' x.1 x.2.1 t, x.2.2), ⟨#[]⟩, ⟨#[]⟩)
def putT (x : TStore) (t : ByteArray) : TKept := if ¬ StoreOk x ∨ 2002 < t.size then (1, zeroSt, ⟨#[]⟩, ⟨#[]⟩) else putR x t
theorem szL_app {α : Type} (f : α → Nat) (l k : List α) : szL f (l ++ k) = szL f l + szL f k := by
  induction l with
  | nil => simp [szL]
  | cons x l ih => rw [List.cons_append, szL_cons', szL_cons', ih]; omega
theorem insR'_sz (w : Int) (l : List ByteArray) (t : ByteArray) : szL Mk.sz (insR' w l t) = szL Mk.sz l + 1 + t.size := by
  unfold insR'
  have h := szL_app Mk.sz (l.take (plc w (sumS t w) l)) (l.drop (plc w (sumS t w) l))
  rw [List.take_append_drop] at h
  rw [szL_app, szL_cons', h]
  show _ + (1 + t.size + _) = _
  omega
theorem getR_mem {w : Int} {s : ByteArray} {l : List ByteArray} {o : ByteArray} (h : getR w s l = some o) : o ∈ l ∧ sumS o w = s := by
  unfold getR at h
  cases hp : l[plc w s l]? with
  | none => rw [hp] at h; cases h
  | some t =>
    rw [hp] at h
    simp only [Option.bind_some] at h
    split at h
    · cases h; exact ⟨List.mem_of_getElem? hp, by assumption⟩
    · cases h
theorem szL_mem {l : List ByteArray} {o : ByteArray} (h : o ∈ l) : o.size ≤ szL Mk.sz l := by
  obtain ⟨i, hi, rfl⟩ := List.mem_iff_getElem.1 h
  have := szL_get Mk.sz l i hi
  have e : (Mk.sz l[i] : Nat) = l[i].size := rfl
  omega
theorem putR_sz (x : TStore) (t : ByteArray) : Mk.sz (putR x t) ≤ Mk.sz x + 1 + t.size := by
  have e1 : Mk.sz x = 0 + (szL Mk.sz x.2.1 + szL Mk.sz x.2.2) := rfl
  have e0 : Mk.sz zeroSt = 0 := rfl
  have ee : (⟨#[]⟩ : ByteArray).size = 0 := rfl
  unfold putR
  cases h : putKind x.1 x.2.1 t with
  | same => show 0 + (Mk.sz x + (_ + _)) ≤ _; show 0 + (Mk.sz x + (0 + 0)) ≤ _; omega
  | clash o =>
    have ho : o ∈ x.2.1 := by
      unfold putKind at h
      cases hg : getR x.1 (sumS t x.1) x.2.1 with
      | none => rw [hg] at h; simp only at h; split at h <;> cases h
      | some o' =>
        rw [hg] at h
        simp only at h
        split at h
        · cases h
        · cases h; exact (getR_mem hg).1
    have := szL_mem ho
    show 0 + (0 + (o.size + t.size)) ≤ _
    omega
  | full => show 0 + (0 + (0 + 0)) ≤ _; omega
  | put =>
    have := insR'_sz x.1 x.2.1 t
    show 0 + ((0 + (szL Mk.sz (insR' x.1 x.2.1 t) + szL Mk.sz x.2.2)) + (0 + 0)) ≤ _
    omega
theorem putT_sz (x : TStore) (t : ByteArray) : Mk.sz (putT x t) ≤ Mk.sz x + 1 + t.size := by
  unfold putT
  split
  · show 0 + (0 + (0 + 0)) ≤ _; omega
  · exact putR_sz x t
def putCode : PutKind → Int
  | .clash _ => 2
  | .full => 3
  | _ => 0
def putOther : PutKind → ByteArray
  | .clash o => o
  | _ => ⟨#[]⟩
/-- The texts behind a put. -/
def putTexts (w : Int) (l : List ByteArray) (t : ByteArray) : List ByteArray := match putKind w l t with | .put => insR' w l t | _ => l
theorem putKind_clash {w : Int} {l : List ByteArray} {t : ByteArray} (h : plc w (sumS t w) l < l.length) (e : sumS l[plc w (sumS t w) l] w = sumS t w) (k : ¬ l[plc w (sumS t w) l] = t) : putKind w l t = .clash l[plc w (sumS t w) l] := by
  unfold putKind; rw [getR_some h e]; simp only [if_neg k]
theorem putKind_same {w : Int} {l : List ByteArray} {t : ByteArray} (h : plc w (sumS t w) l < l.length) (e : sumS l[plc w (sumS t w) l] w = sumS t w) (k : l[plc w (sumS t w) l] = t) : putKind w l t = .same := by
  unfold putKind; rw [getR_some h e]; simp only [if_pos k]
theorem putKind_full {w : Int} {l : List ByteArray} {t : ByteArray} (h : getR w (sumS t w) l = none) (k : 5000 ≤ l.length) : putKind w l t = .full := by
  unfold putKind; rw [h]; simp only [if_pos k]
theorem putKind_put {w : Int} {l : List ByteArray} {t : ByteArray} (h : getR w (sumS t w) l = none) (k : ¬ 5000 ≤ l.length) : putKind w l t = .put := by
  unfold putKind; rw [h]; simp only [if_neg k]
theorem getR_is {w : Int} {s : ByteArray} {l : List ByteArray} (h : (getR w s l).isSome = true) : ∃ hp : plc w s l < l.length, sumS l[plc w s l] w = s := by
  by_cases hp : plc w s l < l.length
  · by_cases e : sumS l[plc w s l] w = s
    · exact ⟨hp, e⟩
    · rw [getR_ne hp e] at h; cases h
  · rw [getR_end hp] at h; cases h
theorem mem_szR {l : List TRecord} {r : TRecord} (h : r ∈ l) : r.1.length + r.2.1.length ≤ szL Mk.sz l := by
  obtain ⟨i, hi, rfl⟩ := List.mem_iff_getElem.1 h
  have h1 := szL_get Mk.sz l i hi
  have h2 := szL_length Mk.sz l[i].1
  have h3 := szL_length Mk.sz l[i].2.1
  have e : Mk.sz l[i] = szL Mk.sz l[i].1 + (szL Mk.sz l[i].2.1 + l[i].2.2.size) := rfl
  omega
end Go.AM
namespace Go.AM
open Go
set_option linter.unusedVariables false
set_option linter.unusedSimpArgs false
section
variable {α : Type} [Dat α] {P : Program} {A : AH} {s : Sl} {l : List α} {F : List Nat} {t : TypeId}
theorem Reps.drop {cs : List Value} {G : List Nat} (h : Reps A l cs G) : ∀ k, k ≤ l.length → ∃ G', Reps A (l.drop k) (cs.drop (k * Dat.w α)) G' ∧ ∀ b, b ∈ G' → b ∈ G := by
  induction h with
  | nil => intro k hk; have : k = 0 := by simpa using hk
           subst this; exact ⟨[], by simpa using Reps.nil, fun b hb => hb⟩
  | @cons x l c cs F G hx h ih =>
    intro k hk
    have hl := Dat.len hx
    cases k with
    | zero => exact ⟨F ++ G, by simpa using Reps.cons hx h, fun b hb => hb⟩
    | succ k =>
      obtain ⟨G', h1, h2⟩ := ih k (by simpa using hk)
      refine ⟨G', ?_, fun b hb => List.mem_append_right _ (h2 b hb)⟩
      have e0 : c.drop ((k + 1) * Dat.w α) = [] := List.drop_eq_nil_of_le (by rw [hl, Nat.succ_mul]; omega)
      rw [List.drop_append, e0, List.nil_append, hl, show (k + 1) * Dat.w α - Dat.w α = k * Dat.w α by rw [Nat.succ_mul]; omega]
      simpa using h1
theorem SlR.cells_e (h : InB A s l F) : ∃ c, A.get s.b = .cells c (Dat.w α) := by
  obtain ⟨_, _, _, _, c, _, _, h5, _⟩ := h; exact ⟨c, h5⟩
/-- s[i:] -/
theorem SlR.from (h : SlR A s l F) (ht : tElemSize P t = some (Dat.w α)) {i : Nat} (hi : i ≤ l.length) :
    ∃ s' F', (∀ k, aSlice P A t s.v (some (.int k i)) none none = some s'.v) ∧ SlR A s' (l.drop i) F' ∧ ∀ b ∈ F', b ∈ F := by
  have hlen := h.len
  have hb1 : ∀ k, aBound (some (.int k (i : Int))) 0 = some i := fun k => by simp [aBound]
  have hbn : ∀ d, aBound none d = some d := fun d => rfl
  cases h with
  | nil h hl hF =>
    subst h hl hF
    have : i = 0 := by simpa using hi
    subst this
    refine ⟨.nil, [], fun k => ?_, .nil rfl rfl rfl, by simp⟩
    have hb : (0 : Nat) < BIG := by decide
    simp only [Sl.v_nil, aSlice, ht, hb1, hbn, hb, Nat.le_refl, and_self, if_true, Nat.sub_zero]
  | empty h hn hc hl hF =>
    subst hl hF
    have : i = 0 := by simpa using hi
    subst this
    refine ⟨s, [], fun k => ?_, .empty h hn hc rfl rfl, by simp⟩
    simp only [Sl.v, h, aSlice, ht, hb1, hbn, hc, hn, Nat.le_refl, and_self, if_true, Nat.sub_zero, Nat.zero_mul, Bool.false_eq_true, if_false, Option.map_some, ptr_add, Nat.add_zero, ite_self]
  | inB h =>
    obtain ⟨h1, h2, h3, h4, c, cs, G, h5, h6, h7, h8, rfl⟩ := h
    obtain ⟨G', r1, r2⟩ := h8.drop i hi
    have hrow : ∃ c cs G2, A.get s.b = .cells c (Dat.w α) ∧ s.o + i * Dat.w α + (s.len - i) * Dat.w α ≤ c.length ∧ (c.drop (s.o + i * Dat.w α)).take ((s.len - i) * Dat.w α) = cs ∧ Reps A (l.drop i) cs G2 ∧ s.b :: G' = s.b :: G2 := by
      have em : i * Dat.w α + (s.len - i) * Dat.w α = s.len * Dat.w α := by rw [← Nat.add_mul]; congr 1; omega
      refine ⟨c, cs.drop (i * Dat.w α), G', h5, by omega, ?_, r1, rfl⟩
      rw [← h7, List.drop_take, List.drop_drop]
      congr 1
      rw [← em]; omega
    rcases h4 with h4 | ⟨h4, h4'⟩
    · refine ⟨⟨false, s.b, s.o + i * Dat.w α, s.len - i, BIG⟩, s.b :: G', fun k => ?_, .inB ⟨rfl, h2, by simp; omega, .inl rfl, hrow⟩, fun b hb => by
        rcases List.mem_cons.1 hb with rfl | hb
        · simp
        · exact List.mem_cons_of_mem _ (r2 b hb)⟩
      have e : i ≤ s.len := by omega
      simp only [Sl.v, h1, aSlice, ht, hb1, hbn, h4, h5, Nat.lt_irrefl, e, Nat.le_refl, and_self, if_true, if_false, Bool.false_eq_true, ptr_add]
    · have e : i ≤ s.len := by omega
      by_cases hci : s.cap = i
      · refine ⟨⟨false, s.b, s.o, s.len - i, s.cap - i⟩, [], fun k => ?_, .empty rfl (by simp; omega) (by simp; omega) (by rw [List.drop_eq_nil_of_le (by omega)]) rfl, by simp⟩
        have hib : i < BIG := by omega
        simp only [Sl.v, h1, aSlice, ht, hb1, hbn, hib, e, Nat.le_refl, and_self, if_true, Bool.false_eq_true, if_false, hci]
      · refine ⟨⟨false, s.b, s.o + i * Dat.w α, s.len - i, s.cap - i⟩, s.b :: G', fun k => ?_, .inB ⟨rfl, h2, by simp; omega, .inr ⟨by simp; omega, by simp; omega⟩, hrow⟩, fun b hb => by
          rcases List.mem_cons.1 hb with rfl | hb
          · simp
          · exact List.mem_cons_of_mem _ (r2 b hb)⟩
        simp only [Sl.v, h1, aSlice, ht, hb1, hbn, h4', e, Nat.le_refl, and_self, if_true, Bool.false_eq_true, if_false, hci, Option.map_some, ptr_add]
/-- The row of the first elements. -/
theorem InB.firstRow (h : InB A s l F) {i : Nat} (hi : i ≤ l.length) : ∃ G', (∃ c cs G2, A.get s.b = .cells c (Dat.w α) ∧ s.o + i * Dat.w α ≤ c.length ∧ (c.drop s.o).take (i * Dat.w α) = cs ∧ Reps A (l.take i) cs G2 ∧ s.b :: G' = s.b :: G2) ∧ ∀ b ∈ s.b :: G', b ∈ F := by
  obtain ⟨h1, h2, h3, h4, c, cs, G, h5, h6, h7, h8, rfl⟩ := h
  obtain ⟨G', r1, r2⟩ := h8.take i hi
  have em : i * Dat.w α ≤ s.len * Dat.w α := Nat.mul_le_mul_right _ (by omega)
  refine ⟨G', ⟨c, cs.take (i * Dat.w α), G', h5, by omega, ?_, r1, rfl⟩, fun b hb => ?_⟩
  · rw [← h7, List.take_take, Nat.min_eq_left em]
  · rcases List.mem_cons.1 hb with rfl | hb
    · simp
    · exact List.mem_cons_of_mem _ (r2 b hb)
/-- s[:i] -/
theorem SlR.upto (h : SlR A s l F) (ht : tElemSize P t = some (Dat.w α)) {i : Nat} (hi : i ≤ l.length) :
    ∃ s' F', (∀ k, aSlice P A t s.v none (some (.int k i)) none = some s'.v) ∧ SlR A s' (l.take i) F' ∧ ∀ b ∈ F', b ∈ F := by
  have hlen := h.len
  have hb1 : ∀ k d, aBound (some (.int k (i : Int))) d = some i := fun k d => by simp [aBound]
  have hb0 : aBound none 0 = some 0 := rfl
  cases h with
  | nil h hl hF =>
    subst h hl hF
    have : i = 0 := by simpa using hi
    subst this
    refine ⟨.nil, [], fun k => ?_, .nil rfl rfl rfl, by simp⟩
    have hb : (0 : Nat) < BIG := by decide
    simp only [Sl.v_nil, aSlice, ht, hb1, hb0, hb, Nat.le_refl, and_self, if_true, Nat.sub_zero]
  | empty h hn hc hl hF =>
    subst hl hF
    have : i = 0 := by simpa using hi
    subst this
    refine ⟨s, [], fun k => ?_, .empty h hn hc rfl rfl, by simp⟩
    simp only [Sl.v, h, aSlice, ht, hb1, hb0, hc, hn, Nat.le_refl, and_self, if_true, Nat.sub_zero, Nat.zero_mul, Bool.false_eq_true, if_false, Option.map_some, ptr_add, Nat.add_zero, ite_self]
  | inB h =>
    obtain ⟨G', hrow, hsub⟩ := h.firstRow hi
    obtain ⟨h1, h2, h3, h4, c, cs, G, h5, h6, h7, h8, rfl⟩ := h
    have e : i ≤ s.len := by omega
    rcases h4 with h4 | ⟨h4, h4'⟩
    · refine ⟨⟨false, s.b, s.o, i, BIG⟩, s.b :: G', fun k => ?_, .inB ⟨rfl, h2, by simp; omega, .inl rfl, hrow⟩, hsub⟩
      simp only [Sl.v, h1, aSlice, ht, hb1, hb0, h4, h5, Nat.lt_irrefl, e, Nat.zero_le, and_self, if_true, if_false, Bool.false_eq_true, ptr_add, Nat.zero_mul, Nat.add_zero, Nat.sub_zero]
    · refine ⟨⟨false, s.b, s.o, i, s.cap⟩, s.b :: G', fun k => ?_, .inB ⟨rfl, h2, by simp; omega, .inr ⟨by simp; omega, h4'⟩, hrow⟩, hsub⟩
      simp only [Sl.v, h1, aSlice, ht, hb1, hb0, h4', e, Nat.zero_le, and_self, if_true, Bool.false_eq_true, if_false, Option.map_some, ptr_add, Nat.zero_mul, Nat.add_zero, Nat.sub_zero, ite_self]
/-- s[:i:i] -/
theorem SlR.upto3 (h : SlR A s l F) (ht : tElemSize P t = some (Dat.w α)) {i : Nat} (hi : i ≤ l.length) (hil : i < BIG) :
    ∃ s' F', (∀ k k', aSlice P A t s.v none (some (.int k i)) (some (.int k' i)) = some s'.v) ∧ SlR A s' (l.take i) F' ∧ (∀ b ∈ F', b ∈ F) ∧ s'.len = i ∧ s'.cap = i := by
  have hlen := h.len
  have hb1 : ∀ k d, aBound (some (.int k (i : Int))) d = some i := fun k d => by simp [aBound]
  have hb0 : aBound none 0 = some 0 := rfl
  cases h with
  | nil h hl hF =>
    subst h hl hF
    have : i = 0 := by simpa using hi
    subst this
    refine ⟨.nil, [], fun k k' => ?_, .nil rfl rfl rfl, by simp, rfl, rfl⟩
    simp only [Sl.v_nil, aSlice, ht, hb1, hb0, hil, Nat.le_refl, and_self, if_true, Nat.sub_zero]
  | empty h hn hc hl hF =>
    subst hl hF
    have : i = 0 := by simpa using hi
    subst this
    refine ⟨⟨false, s.b, s.o, 0, 0⟩, [], fun k k' => ?_, .empty rfl rfl hil rfl rfl, by simp, rfl, rfl⟩
    simp only [Sl.v, h, aSlice, ht, hb1, hb0, hil, hn, Nat.le_refl, and_self, if_true, Nat.sub_zero, Bool.false_eq_true, if_false]
  | inB h =>
    obtain ⟨G', hrow, hsub⟩ := h.firstRow hi
    obtain ⟨h1, h2, h3, h4, c, cs, G, h5, h6, h7, h8, rfl⟩ := h
    have e : i ≤ s.len := by omega
    refine ⟨⟨false, s.b, s.o, i, i⟩, s.b :: G', fun k k' => ?_, .inB ⟨rfl, h2, by simp; omega, .inr ⟨Nat.le_refl _, hil⟩, hrow⟩, hsub, rfl, rfl⟩
    simp only [Sl.v, h1, aSlice, ht, hb1, hb0, e, hil, Nat.zero_le, Nat.le_refl, and_self, if_true, Bool.false_eq_true, if_false, Option.map_some, ptr_add, Nat.zero_mul, Nat.add_zero, Nat.sub_zero, ite_self]
end
/-- Texts have no blocks of their own. -/
theorem Reps.strs {A : AH} {l : List ByteArray} {cs : List Value} {G : List Nat} (h : Reps A l cs G) : G = [] ∧ ∀ A', Reps A' l cs [] := by
  induction h with
  | nil => exact ⟨rfl, fun _ => .nil⟩
  | cons hx h ih =>
    obtain ⟨rfl, h2⟩ := ih
    obtain ⟨rfl, rfl, hz⟩ := hx
    exact ⟨rfl, fun A' => Reps.cons (F := []) (G := []) (show [Value.string _] = [Value.string _] ∧ ([] : List Nat) = [] ∧ _ from ⟨rfl, rfl, hz⟩) (h2 A')⟩
/-- Something is appended to texts that fill their row. -/
theorem app_full {P : Program} {ro : Nat} {A : AH} {t : TypeId} {s : Sl} {l xs : List ByteArray} {F : List Nat} {x : Value} {vs : List Value} (h : SlR A s l F) (hc : s.cap = s.len) (hcap : s.cap < BIG) (ht : tElemSize P t = some 1) (hsrc : aSource A 1 x = some (xs.length, vs)) (hx : Reps A xs vs []) (hn : 0 < xs.length) (hlim : l.length + xs.length < 4294967296) :
    ∃ s' A', aAppend P ro A t s.v x = some (s'.v, A') ∧ Acc A.size A' s' (l ++ xs) [] ∧ Ext A A' ∧ A'.size = A.size + 1 := by
  have hl2 : l.length + xs.length < LIM := hlim
  have own : ∀ (old : List Value), Reps A l old [] → Acc A.size (A.new (.cells (old ++ vs) 1)) ⟨false, A.size, 0, l.length + xs.length, BIG⟩ (l ++ xs) [] := fun old ho =>
    .own (Nat.le_refl _) (Nat.lt_succ_self _) (by simp) (by simp) (.inl rfl) (AH.get_new_self _ _) ((Reps.strs (ho.append hx)).2 _)
  have hlen := h.len
  have hb : (0 : Nat) < BIG := by decide
  have hx0 : ¬ xs.length = 0 := by omega
  cases h with
  | nil h hl hF =>
    subst h hl hF
    refine ⟨⟨false, A.size, 0, xs.length, BIG⟩, _, ?_, by have := own [] .nil; simpa using this, Ext.new _ _, rfl⟩
    have hl3 : 0 + xs.length < LIM := by simpa using hl2
    show aAppend P ro A t (.slice none 0 0) x = some (.slice (some ⟨A.size, 0, none⟩) xs.length BIG, A.new (.cells vs 1))
    unfold aAppend
    simp only [ht, hsrc, hl3, if_true, hx0, if_false, ne_eq, not_true_eq_false, or_self]
  | empty h hn' hc' hl hF =>
    subst hl hF
    refine ⟨⟨false, A.size, 0, xs.length, BIG⟩, _, ?_, by have := own [] .nil; simpa using this, Ext.new _ _, rfl⟩
    have hl3 : 0 + xs.length < LIM := by simpa using hl2
    have hcc : s.cap = 0 := by omega
    have e : s.v = .slice (some ⟨s.b, s.o, none⟩) 0 0 := by simp only [Sl.v, h, hn', hcc, Bool.false_eq_true, if_false]
    rw [e]
    show aAppend P ro A t (.slice (some ⟨s.b, s.o, none⟩) 0 0) x = some (.slice (some ⟨A.size, 0, none⟩) xs.length BIG, A.new (.cells vs 1))
    unfold aAppend
    have hx1 : ¬ 0 + xs.length ≤ 0 := by omega
    simp only [ht, hsrc, hl3, hb, if_true, hx0, hx1, if_false, false_and]
  | inB h =>
    obtain ⟨h1, h2, h3, h4, c, cs, G, h5, h6, h7, h8, rfl⟩ := h
    have h6 : s.o + s.len * 1 ≤ c.length := h6
    have h7 : (c.drop s.o).take (s.len * 1) = cs := h7
    have hr0 := h8.strs.2 A
    have hl3 : s.len + xs.length < LIM := by rw [h3]; exact hl2
    have e : s.v = .slice (some ⟨s.b, s.o, none⟩) s.len s.len := by simp only [Sl.v, h1, hc, Bool.false_eq_true, if_false]
    have hrow : aRow A ⟨s.b, s.o, none⟩ (s.len * 1) = some cs := by rw [aRow_get h5 h6, h7]
    have hcb : s.len < BIG := by omega
    by_cases h0 : s.len = 0
    · have hl0 : l = [] := List.eq_nil_of_length_eq_zero (by omega)
      subst hl0
      refine ⟨⟨false, A.size, 0, xs.length, BIG⟩, _, ?_, by have := own [] .nil; simpa using this, Ext.new _ _, rfl⟩
      have hl4 : 0 + xs.length < LIM := by simpa using hl2
      rw [e, h0]
      show aAppend P ro A t (.slice (some ⟨s.b, s.o, none⟩) 0 0) x = some (.slice (some ⟨A.size, 0, none⟩) xs.length BIG, A.new (.cells vs 1))
      unfold aAppend
      have hx1 : ¬ 0 + xs.length ≤ 0 := by omega
      simp only [ht, hsrc, hl4, hb, if_true, hx0, hx1, if_false, false_and]
    · refine ⟨⟨false, A.size, 0, l.length + xs.length, BIG⟩, _, ?_, own cs hr0, Ext.new _ _, rfl⟩
      rw [e]
      show aAppend P ro A t (.slice (some ⟨s.b, s.o, none⟩) s.len s.len) x = some (.slice (some ⟨A.size, 0, none⟩) (l.length + xs.length) BIG, A.new (.cells (cs ++ vs) 1))
      rw [← h3]
      unfold aAppend
      have hx1 : ¬ s.len + xs.length ≤ s.len := by omega
      simp only [ht, hsrc, hl3, hcb, if_true, hx0, hx1, h0, if_false, false_and, hrow]
/-- The elements of a list, to be appended. -/
theorem SlR.srcS {A : AH} {s : Sl} {l : List ByteArray} {F : List Nat} (h : SlR A s l F) : ∃ vs, aSource A 1 s.v = some (l.length, vs) ∧ ∀ A', Reps A' l vs [] := by
  obtain ⟨vs, G, h1, h2, _⟩ := h.src
  exact ⟨vs, h1, h2.strs.2⟩
/-- append([]T{}, s...) -/
theorem SlR.copied {α : Type} [Dat α] {P : Program} {ro : Nat} {A : AH} {t : TypeId} {s : Sl} {l : List α} {F : List Nat} (h : SlR A s l F) (hnf : ∀ {A : AH} {cs : List Value} {G : List Nat}, Reps A l cs G → G = []) (ht : tElemSize P t = some (Dat.w α)) (hro : ro ≤ A.size) (hl : l.length < 4294967296) :
    ∃ s' A', aAppend P ro (A.new (.cells [] (Dat.w α))) t (Sl.mk false A.size 0 0 0).v s.v = some (s'.v, A') ∧ Acc A.size A' s' l [] ∧ Ext A A' := by
  obtain ⟨vs, G0, hsrc, hr, _⟩ := (h.ext (Ext.new A (.cells [] (Dat.w α)))).src
  obtain rfl := hnf hr
  obtain ⟨s', A1, hap, hacc, hg, _⟩ := (Acc.empty (lo := A.size) (A := A.new (.cells [] (Dat.w α))) (α := α) A.size 0).app (P := P) (ro := ro) (t := t) hro ht hsrc rfl hr (.inr (by simp)) (by simpa using hl) (by simp only [AH.size_new]; omega)
  refine ⟨s', A1, hap, by simpa using hacc, ?_⟩
  exact hg.ext (Ext.new A _) (Nat.le_refl _)
/-- A look at a slice's row, where its end is not known. -/
def lookS (n : Nat) (v : Value) (p : Prop) : Prop := (∀ a k c, v = .slice (some a) k c → BIG ≤ c → a.block < n) ∧ p
/-- The looks of a region's further operations. -/
theorem amX2 (P : Program) (ro : Nat) (X : FuncId → List Value → AH → ARes → AH → Prop) :
    (∀ n e t x lo hi mx p, lookH n e (.slice t x lo hi mx) p = lookS n (e.eval x) p) ∧ (∀ n (s : Sl) p, (s.b < n ∨ s.cap < BIG ∨ s.nl = true) → lookS n s.v p = p) ∧ (∀ n s p, lookS n (.string s) p = p) ∧
    (∀ n e x p, lookH n e (.nilCheck x) p = p) ∧ (∀ n e f a b p, lookH n e (.makeFunc f a b) p = p) ∧ (∀ n e t x p, lookH n e (.makeInterface t x) p = p) ∧ (∀ n e a ts p, lookH n e (.call ⟨.builtin .min, a, ts⟩) p = p) :=
  ⟨fun n e t x lo hi mx p => (by
      unfold lookH lookS
      simp only [isEff, readsAt]
      refine propext ⟨fun h => ⟨fun a k c hr hc => h.1 trivial a.block (by rw [hr]; simp only [Nat.not_lt.2 hc, if_false]), h.2⟩, fun h => ⟨fun _ b hb => ?_, h.2⟩⟩
      cases hx : e.eval x with
      | slice o k c => cases o with
        | none => rw [hx] at hb; cases hb
        | some a =>
          rw [hx] at hb
          simp only at hb
          split at hb
          · cases hb
          · cases hb; exact h.1 _ _ _ hx (by omega)
      | _ => rw [hx] at hb; cases hb),
    fun n s p h => (by
      unfold lookS
      refine propext ⟨fun h => h.2, fun hp => ⟨fun a k c hv hc => ?_, hp⟩⟩
      unfold Sl.v at hv
      by_cases h1 : s.nl = true
      · rw [if_pos h1] at hv; cases hv
      · rw [if_neg h1] at hv
        cases hv
        show s.b < n
        rcases h with h | h | h
        · exact h
        · omega
        · exact absurd h h1),
    fun n s p => propext ⟨fun h => h.2, fun hp => ⟨fun a k c hv => (by cases hv), hp⟩⟩,
    fun _ _ _ _ => lookH_no rfl, fun _ _ _ _ _ _ => lookH_no rfl, fun _ _ _ _ _ => lookH_no rfl, fun _ _ _ _ _ => lookH_no rfl⟩
end Go.AM
namespace Go.AM
open Go
set_option linter.unusedVariables false
set_option linter.unusedSimpArgs false
theorem ne_sbs {P : Program} {t t1 t2 t3 : TypeId} {n1 n2 n3 g1 g2 g3 p1 p2 p3 : String} {e1 e2 e3 : Bool} {o1 o2 o3 : Nat}
    (hu : P.underlying t = some (.struct #[⟨n1, t1, 0, e1, g1, p1, o1⟩, ⟨n2, t2, 1, e2, g2, p2, o2⟩, ⟨n3, t3, 2, e3, g3, p3, o3⟩]))
    (h1 : n1 ≠ "_") (h2 : n2 ≠ "_") (h3 : n3 ≠ "_") (k1 : tKind P t1 = some .str) (k2 : tKind P t2 = some .bool) (k3 : tKind P t3 = some .str)
    (hg : (P.stoodInHeld t || P.eqGuardType P.depth t) = false) (x y : TGlance) :
    aBin P .neq t (.agg #[.string x.1, .bool x.2.1, .string x.2.2]) (.agg #[.string y.1, .bool y.2.1, .string y.2.2]) = some (.bool (!decide (x = y))) := by
  have h := eq_sbs hu h1 h2 h3 k1 k2 k3 hg x y
  have e : (x = y) ↔ (x.1 = y.1 ∧ x.2.1 = y.2.1 ∧ x.2.2 = y.2.2) := by
    obtain ⟨a, b, c⟩ := x; obtain ⟨a', b', c'⟩ := y; simp [Prod.mk.injEq]
  rw [show decide (x = y) = decide (x.1 = y.1 ∧ x.2.1 = y.2.1 ∧ x.2.2 = y.2.2) from decide_eq_decide.2 e]
  simp only [aBin] at h ⊢
  cases hq : aEq P t (.agg #[.string x.1, .bool x.2.1, .string x.2.2]) (.agg #[.string y.1, .bool y.2.1, .string y.2.2]) with
  | none => rw [hq] at h; cases h
  | some b => rw [hq] at h; simp only [Option.map_some, Option.some.injEq, Value.bool.injEq] at h ⊢; rw [h]
theorem ne_isi {P : Program} {t t1 t2 t3 : TypeId} {n1 n2 n3 g1 g2 g3 p1 p2 p3 : String} {e1 e2 e3 : Bool} {o1 o2 o3 : Nat}
    (hu : P.underlying t = some (.struct #[⟨n1, t1, 0, e1, g1, p1, o1⟩, ⟨n2, t2, 1, e2, g2, p2, o2⟩, ⟨n3, t3, 2, e3, g3, p3, o3⟩]))
    (h1 : n1 ≠ "_") (h2 : n2 ≠ "_") (h3 : n3 ≠ "_") (k1 : tKind P t1 = some (.int .i64)) (k2 : tKind P t2 = some .str) (k3 : tKind P t3 = some (.int .i64))
    (hg : (P.stoodInHeld t || P.eqGuardType P.depth t) = false) (x y : TIns) :
    aBin P .neq t (.agg #[.int .i64 x.1, .string x.2.1, .int .i64 x.2.2]) (.agg #[.int .i64 y.1, .string y.2.1, .int .i64 y.2.2]) = some (.bool (!decide (x = y))) := by
  have ht : tKind P t = some .struct := by unfold tKind; rw [hu]; rfl
  have e : (x = y) ↔ (x.1 = y.1 ∧ x.2.1 = y.2.1 ∧ x.2.2 = y.2.2) := by
    obtain ⟨a, b, c⟩ := x; obtain ⟨a', b', c'⟩ := y; simp [Prod.mk.injEq]
  rw [show decide (x = y) = decide (x.1 = y.1 ∧ x.2.1 = y.2.1 ∧ x.2.2 = y.2.2) from decide_eq_decide.2 e]
  simp only [aBin, aEq, ht, hu, hg, aEqFields, h1, h2, h3, k1, k2, k3, str_toList]
  by_cases c1 : x.1 = y.1
  · by_cases c2 : x.2.1 = y.2.1
    · by_cases c3 : x.2.2 = y.2.2
      · simp [c1, c2, c3]
      · simp [c1, c2, c3]
    · simp [c1, c2]
  · simp [c1]
theorem same_end {α : Type} {l k : List α} (hl : l.length = k.length) (h : ∀ j (h1 : j < l.length) (h2 : j < k.length), j < l.length → l[j] = k[j]) : l = k :=
  List.ext_getElem hl fun j h1 h2 => h j h1 h2 h1
theorem same_step {α : Type} {l k : List α} {i : Nat} (h : l.take i = k.take i) (h1 : i < l.length) (h2 : i < k.length) (e : l[i] = k[i]) : l.take (i + 1) = k.take (i + 1) := by
  rw [List.take_succ_eq_append_getElem h1, List.take_succ_eq_append_getElem h2, h, e]
theorem same_ne {α : Type} {l k : List α} {i : Nat} (h1 : i < l.length) (h2 : i < k.length) (e : ¬ l[i] = k[i]) : l ≠ k := fun h => e (by subst h; rfl)
theorem rec_eq {x y : TRecord} : x = y ↔ x.2.2 = y.2.2 ∧ x.2.1 = y.2.1 ∧ x.1 = y.1 := by
  obtain ⟨a, b, c⟩ := x; obtain ⟨a', b', c'⟩ := y
  simp only [Prod.mk.injEq]
  exact ⟨fun ⟨h1, h2, h3⟩ => ⟨h3, h2, h1⟩, fun ⟨h1, h2, h3⟩ => ⟨h3, h2, h1⟩⟩
end Go.AM
namespace Go.AM
open Go
set_option linter.unusedVariables false
set_option linter.unusedSimpArgs false
/-- A text put among others, whatever their number. -/
def insU (w : Int) (l : List ByteArray) (t : ByteArray) : List ByteArray := match getR w (sumS t w) l with | some _ => l | none => insR' w l t
def insAll (w : Int) (a b : List ByteArray) : List ByteArray := b.foldl (insU w) a
/-- The first text of b with the sum of another text of a. -/
def clash1 (w : Int) (a : List ByteArray) : List ByteArray → Option (ByteArray × ByteArray)
  | [] => none
  | t :: b => match getR w (sumS t w) a with
    | some x => if x = t then clash1 w a b else some (x, t)
    | none => clash1 w a b
def newRecs (a b : List TRecord) : List TRecord := b.filter fun r => !(a.any fun x => decide (x = r))
def mergeR (a b : TStore) : TKept :=
  if ¬ StoreOk a ∨ ¬ StoreOk b ∨ a.1 ≠ b.1 then (1, zeroSt, ⟨#[]⟩, ⟨#[]⟩) else
  match clash1 a.1 a.2.1 b.2.1 with
  | some (x, t) => (2, zeroSt, x, t)
  | none =>
    if 5000 < (insAll a.1 a.2.1 b.2.1).length ∨ 2000 < (a.2.2 ++ newRecs a.2.2 b.2.2).length then (3, zeroSt, ⟨#[]⟩, ⟨#[]⟩)
    else (0, (a.1, insAll a.1 a.2.1 b.2.1, a.2.2 ++ newRecs a.2.2 b.2.2), ⟨#[]⟩, ⟨#[]⟩)
theorem insR'_len (w : Int) (l : List ByteArray) (t : ByteArray) : (insR' w l t).length = l.length + 1 := by
  have := plc_le w (sumS t w) l
  unfold insR'
  rw [List.length_append, List.length_take, List.length_cons, List.length_drop]
  omega
theorem insU_len (w : Int) (l : List ByteArray) (t : ByteArray) : l.length ≤ (insU w l t).length ∧ (insU w l t).length ≤ l.length + 1 := by
  unfold insU
  cases getR w (sumS t w) l with
  | some o => exact ⟨Nat.le_refl _, Nat.le_succ _⟩
  | none => simp only; rw [insR'_len]; exact ⟨Nat.le_succ _, Nat.le_refl _⟩
theorem insAll_len (w : Int) : ∀ (b a : List ByteArray), a.length ≤ (insAll w a b).length ∧ (insAll w a b).length ≤ a.length + b.length
  | [], a => ⟨Nat.le_refl _, Nat.le_refl _⟩
  | t :: b, a => by
    have h1 := insU_len w a t
    have h2 := insAll_len w b (insU w a t)
    show a.length ≤ (insAll w (insU w a t) b).length ∧ _
    rw [List.length_cons]
    exact ⟨by omega, by show (insAll w (insU w a t) b).length ≤ _; omega⟩
theorem insAll_app (w : Int) (a b c : List ByteArray) : insAll w a (b ++ c) = insAll w (insAll w a b) c := by unfold insAll; rw [List.foldl_append]
theorem insAll_succ (w : Int) (a : List ByteArray) {b : List ByteArray} {j : Nat} (hj : j < b.length) : insAll w a (b.take (j + 1)) = insU w (insAll w a (b.take j)) b[j] := by
  rw [List.take_succ_eq_append_getElem hj, insAll_app]; rfl
theorem insAll_mono (w : Int) (a b : List ByteArray) (j : Nat) : (insAll w a (b.take j)).length ≤ (insAll w a b).length := by
  have := (insAll_len w (b.drop j) (insAll w a (b.take j))).1
  rwa [← insAll_app, List.take_append_drop] at this
/-! ### What rises stays rising -/
theorem Rising.iff {w : Int} {l : List ByteArray} : Rising w l ↔ ∀ i (h : i + 1 < l.length), slt (sumS l[i] w) (sumS l[i + 1] w) := by
  constructor
  · intro h i hi; exact h.lt (Nat.lt_succ_self i) hi
  · intro h
    have : ∀ n, n ≤ l.length → Rising w (l.take n) := by
      intro n
      induction n with
      | zero => intro _; trivial
      | succ n ih =>
        intro hn
        cases n with
        | zero => rw [List.take_succ_eq_append_getElem (by omega)]; trivial
        | succ n => exact (Rising.step (by omega)).2 ⟨ih (by omega), h n (by omega)⟩
    have := this l.length (Nat.le_refl _)
    rwa [List.take_length] at this
theorem Rising.drop {w : Int} {l : List ByteArray} (h : Rising w l) (n : Nat) : Rising w (l.drop n) := by
  rw [Rising.iff]
  intro i hi
  rw [List.length_drop] at hi
  rw [List.getElem_drop, List.getElem_drop]
  exact h.lt (by omega) (by omega)
theorem plc_take {w : Int} {s : ByteArray} {l : List ByteArray} : ∀ t ∈ l.take (plc w s l), slt (sumS t w) s := by
  induction l with
  | nil => intro t ht; simp at ht
  | cons a l ih =>
    intro t ht
    unfold plc at ht
    split at ht
    · rw [List.take_succ_cons] at ht
      rcases List.mem_cons.1 ht with rfl | ht
      · assumption
      · exact ih t ht
    · simp at ht
theorem plc_at {w : Int} {s : ByteArray} {l : List ByteArray} (h : plc w s l < l.length) : ¬ slt (sumS l[plc w s l] w) s := by
  induction l with
  | nil => simp at h
  | cons a l ih =>
    by_cases k : slt (sumS a w) s
    · have e : plc w s (a :: l) = plc w s l + 1 := by rw [plc, if_pos k]
      have h' : plc w s l < l.length := by rw [e] at h; simpa using h
      have := ih h'
      simp only [e, List.getElem_cons_succ]
      exact this
    · have e : plc w s (a :: l) = 0 := by rw [plc, if_neg k]
      simp only [e, List.getElem_cons_zero]
      exact k
theorem slt_of_not {a b : ByteArray} (h : ¬ slt a b) (e : a ≠ b) : slt b a := Classical.byContradiction fun k => e (slt_total h k)
theorem getR_none_at {w : Int} {s : ByteArray} {l : List ByteArray} (h : getR w s l = none) (k : plc w s l < l.length) : slt s (sumS l[plc w s l] w) := by
  refine slt_of_not (plc_at k) (fun e => ?_)
  rw [getR_some k e] at h
  cases h
theorem Rising.ins {w : Int} {l : List ByteArray} {t : ByteArray} (h : Rising w l) (hn : getR w (sumS t w) l = none) : Rising w (insR' w l t) := by
  have hle := plc_le w (sumS t w) l
  have hat := @getR_none_at w (sumS t w) l hn
  have htk := @plc_take w (sumS t w) l
  unfold insR'
  generalize plc w (sumS t w) l = p at *
  rw [Rising.iff]
  intro i hi
  have hlen : (l.take p ++ t :: l.drop p).length = l.length + 1 := by rw [List.length_append, List.length_take, List.length_cons, List.length_drop]; omega
  rw [hlen] at hi
  have hg : ∀ j (hj : j < (l.take p ++ t :: l.drop p).length), (l.take p ++ t :: l.drop p)[j] = if h1 : j < p then l[j]'(by omega) else if h2 : j = p then t else l[j - 1]'(by rw [hlen] at hj; omega) := by
    intro j hj
    have hpl : (l.take p).length = p := by rw [List.length_take]; omega
    by_cases h1 : j < p
    · rw [dif_pos h1, List.getElem_append_left (by omega), List.getElem_take]
    · rw [dif_neg h1, List.getElem_append_right (by omega)]
      by_cases h2 : j = p
      · subst h2; rw [dif_pos rfl]; simp only [hpl, Nat.sub_self, List.getElem_cons_zero]
      · rw [dif_neg h2]
        have e : j - (l.take p).length = (j - 1 - p) + 1 := by omega
        simp only [e, List.getElem_cons_succ, List.getElem_drop]
        congr 1; omega
  rw [hg i (by omega), hg (i + 1) (by omega)]
  by_cases h1 : i + 1 < p
  · rw [dif_pos (by omega), dif_pos h1]; exact h.lt (by omega) (by omega)
  · by_cases h2 : i + 1 = p
    · rw [dif_pos (by omega), dif_neg (by omega), dif_pos h2]
      exact htk _ (by rw [List.mem_take_iff_getElem]; exact ⟨i, by omega, rfl⟩)
    · by_cases h3 : i = p
      · subst h3
        rw [dif_neg (by omega), dif_pos rfl, dif_neg (by omega), dif_neg (by omega)]
        simpa using hat (by omega)
      · rw [dif_neg (by omega), dif_neg h3, dif_neg (by omega), dif_neg (by omega)]
        have := h.lt (i := i - 1) (j := i) (by omega) (by omega)
        simpa using this
theorem Rising.insU {w : Int} {l : List ByteArray} {t : ByteArray} (h : Rising w l) : Rising w (AM.insU w l t) := by
  unfold AM.insU
  cases hg : getR w (sumS t w) l with
  | some o => exact h
  | none => exact h.ins hg
theorem Rising.insAll {w : Int} : ∀ {b a : List ByteArray}, Rising w a → Rising w (AM.insAll w a b)
  | [], a, h => h
  | t :: b, a, h => Rising.insAll (b := b) (Rising.insU (t := t) h)
/-- In a rising list a text is found by its sum. -/
theorem getR_of_mem {w : Int} {l : List ByteArray} (h : Rising w l) {o : ByteArray} (ho : o ∈ l) : getR w (sumS o w) l = some o := by
  obtain ⟨i, hi, rfl⟩ := List.mem_iff_getElem.1 ho
  have e : plc w (sumS l[i] w) l = i := plc_eq i (Nat.le_of_lt hi) (fun t ht => by
    obtain ⟨k, hk, rfl⟩ := List.mem_iff_getElem.1 ht
    rw [List.length_take] at hk
    rw [List.getElem_take]
    exact h.lt (by omega) hi) (fun _ => slt_irrefl _)
  have := getR_some (w := w) (s := sumS l[i] w) (l := l) (by rw [e]; exact hi) (by simp only [e])
  simpa only [e] using this
theorem insR'_mem {w : Int} {l : List ByteArray} {t o : ByteArray} : o ∈ insR' w l t ↔ o = t ∨ o ∈ l := by
  unfold insR'
  have h := List.take_append_drop (plc w (sumS t w) l) l
  constructor
  · intro h1
    rcases List.mem_append.1 h1 with h1 | h1
    · exact .inr (List.mem_of_mem_take h1)
    · rcases List.mem_cons.1 h1 with h1 | h1
      · exact .inl h1
      · exact .inr (List.mem_of_mem_drop h1)
  · rintro (rfl | h1)
    · simp
    · rw [← h] at h1
      rcases List.mem_append.1 h1 with h1 | h1
      · exact List.mem_append_left _ h1
      · exact List.mem_append_right _ (List.mem_cons_of_mem _ h1)
theorem insU_mem {w : Int} {l : List ByteArray} {t o : ByteArray} (h : o ∈ insU w l t) : o = t ∨ o ∈ l := by
  unfold insU at h
  cases hg : getR w (sumS t w) l with
  | some x => rw [hg] at h; exact .inr h
  | none => rw [hg] at h; exact insR'_mem.1 h
theorem insAll_mem {w : Int} : ∀ {b a : List ByteArray} {o : ByteArray}, o ∈ insAll w a b → o ∈ a ∨ o ∈ b
  | [], a, o, h => .inl h
  | t :: b, a, o, h => by
    rcases insAll_mem (b := b) (a := insU w a t) h with h | h
    · rcases insU_mem h with h | h
      · exact .inr (by rw [h]; simp)
      · exact .inl h
    · exact .inr (by simp [h])
/-! ### Clashes -/
theorem clash1_app (w : Int) (a : List ByteArray) : ∀ b c : List ByteArray, clash1 w a (b ++ c) = match clash1 w a b with | some z => some z | none => clash1 w a c
  | [], c => rfl
  | t :: b, c => by
    rw [List.cons_append, clash1, clash1]
    cases getR w (sumS t w) a with
    | none => exact clash1_app w a b c
    | some x =>
      simp only
      split
      · exact clash1_app w a b c
      · rfl
theorem clash1_succ {w : Int} {a b : List ByteArray} {j : Nat} (hj : j < b.length) (h : clash1 w a (b.take j) = none) :
    clash1 w a (b.take (j + 1)) = match getR w (sumS b[j] w) a with | some x => if x = b[j] then none else some (x, b[j]) | none => none := by
  rw [List.take_succ_eq_append_getElem hj, clash1_app, h]
  simp only [clash1]
theorem clash1_found {w : Int} {a b : List ByteArray} {j : Nat} {z : ByteArray × ByteArray} (h : clash1 w a (b.take j) = some z) : clash1 w a b = some z := by
  have := clash1_app w a (b.take j) (b.drop j)
  rw [List.take_append_drop, h] at this
  exact this
/-- No clash: what has a text's sum is that text. -/
theorem clash1_none {w : Int} {a : List ByteArray} : ∀ {b : List ByteArray}, clash1 w a b = none → ∀ t ∈ b, ∀ x, getR w (sumS t w) a = some x → x = t
  | [], _, t, ht, _, _ => by cases ht
  | u :: b, h, t, ht, x, hx => by
    rw [clash1] at h
    cases hg : getR w (sumS u w) a with
    | none =>
      rw [hg] at h
      rcases List.mem_cons.1 ht with rfl | ht
      · rw [hg] at hx; cases hx
      · exact clash1_none h t ht x hx
    | some y =>
      rw [hg] at h
      simp only at h
      split at h
      · rename_i e
        rcases List.mem_cons.1 ht with rfl | ht
        · rw [hg] at hx; cases hx; exact e
        · exact clash1_none h t ht x hx
      · cases h
/-- Without a clash, a text of b that has its sum in what was put so far is there already. -/
theorem putKind_merge {w : Int} {a b : List ByteArray} (ha : Rising w a) (hb : Rising w b) (h : clash1 w a b = none) {j : Nat} (hj : j < b.length) :
    putKind w (insAll w a (b.take j)) b[j] = if (getR w (sumS b[j] w) (insAll w a (b.take j))).isSome then .same else if 5000 ≤ (insAll w a (b.take j)).length then .full else .put := by
  unfold putKind
  cases hg : getR w (sumS b[j] w) (insAll w a (b.take j)) with
  | none => rfl
  | some o =>
    simp only [Option.isSome_some, if_true]
    obtain ⟨hm, hs⟩ := getR_mem hg
    have e : o = b[j] := by
      rcases insAll_mem hm with hm | hm
      · have := getR_of_mem ha hm
        rw [hs] at this
        exact clash1_none h _ (List.getElem_mem hj) _ this
      · obtain ⟨k, hk, rfl⟩ := List.mem_iff_getElem.1 hm
        rw [List.length_take] at hk
        rw [List.getElem_take] at hs
        have := hb.lt (i := k) (j := j) (by omega) hj
        rw [hs] at this
        exact absurd this (slt_irrefl _)
    rw [if_pos e]
/-! ### The walk through both lists -/
theorem plc_mid {w : Int} {s : ByteArray} {pre post : List ByteArray} (h1 : ∀ t ∈ pre, slt (sumS t w) s) (h2 : ∀ x r, post = x :: r → ¬ slt (sumS x w) s) : plc w s (pre ++ post) = pre.length :=
  plc_eq pre.length (by rw [List.length_append]; omega) (fun t ht => h1 t (by rwa [List.take_left'] at ht; rfl)) (fun h => by
    rw [List.getElem_append_right (Nat.le_refl _)]
    cases post with
    | nil => simp at h
    | cons x r => simpa using h2 x r rfl)
theorem insU_mid {w : Int} {t : ByteArray} {pre post : List ByteArray} (h1 : ∀ x ∈ pre, slt (sumS x w) (sumS t w)) (h2 : ∀ x r, post = x :: r → slt (sumS t w) (sumS x w)) : insU w (pre ++ post) t = pre ++ t :: post := by
  have hp := plc_mid (w := w) (s := sumS t w) h1 (fun x r e => slt_asymm (h2 x r e))
  have hn : getR w (sumS t w) (pre ++ post) = none := by
    by_cases hl : plc w (sumS t w) (pre ++ post) < (pre ++ post).length
    · refine getR_ne hl (fun e => ?_)
      simp only [hp] at e hl
      rw [List.getElem_append_right (Nat.le_refl _)] at e
      cases post with
      | nil => simp at hl
      | cons x r =>
        have := h2 x r rfl
        simp only [Nat.sub_self, List.getElem_cons_zero] at e
        rw [e] at this
        exact slt_irrefl _ this
    · exact getR_end hl
  unfold insU insR'
  rw [hn, hp]
  simp
theorem insU_same {w : Int} {t x : ByteArray} {pre r : List ByteArray} (h1 : ∀ x ∈ pre, slt (sumS x w) (sumS t w)) (e : sumS x w = sumS t w) : insU w (pre ++ x :: r) t = pre ++ x :: r := by
  have hp := plc_mid (w := w) (s := sumS t w) (post := x :: r) h1 (fun y k h => by cases h; rw [e]; exact slt_irrefl _)
  have hl : plc w (sumS t w) (pre ++ x :: r) < (pre ++ x :: r).length := by rw [hp]; simp
  have hg : getR w (sumS t w) (pre ++ x :: r) = some ((pre ++ x :: r)[plc w (sumS t w) (pre ++ x :: r)]) := getR_some hl (by
    simp only [hp]
    rw [List.getElem_append_right (Nat.le_refl _)]
    simpa using e)
  unfold insU
  rw [hg]
theorem newRecs_succ (a : List TRecord) {b : List TRecord} {i : Nat} (hi : i < b.length) : newRecs a (b.take (i + 1)) = newRecs a (b.take i) ++ (if (a.any fun x => decide (x = b[i])) = true then [] else [b[i]]) := by
  unfold newRecs
  rw [List.take_succ_eq_append_getElem hi, List.filter_append]
  congr 1
  by_cases h : (a.any fun x => decide (x = b[i])) = true
  · rw [if_pos h]; simp only [List.filter_cons, h, Bool.not_true, Bool.false_eq_true, if_false, List.filter_nil]
  · rw [if_neg h]
    have h' : (a.any fun x => decide (x = b[i])) = false := Bool.eq_false_iff.2 h
    simp only [List.filter_cons, h', Bool.not_false, if_true, List.filter_nil]
theorem newRecs_mono (a b : List TRecord) (i : Nat) : (newRecs a (b.take i)).length ≤ (newRecs a b).length := by
  have h := List.take_append_drop i b
  unfold newRecs
  conv => rhs; rw [← h]
  rw [List.filter_append, List.length_append]
  omega
theorem newRecs_le (a b : List TRecord) : (newRecs a b).length ≤ b.length := List.length_filter_le _ _
theorem any_succ (r : TRecord) {l : List TRecord} {k : Nat} (hk : k < l.length) : ((l.take (k + 1)).any fun x => decide (x = r)) = (((l.take k).any fun x => decide (x = r)) || decide (l[k] = r)) := by
  rw [List.take_succ_eq_append_getElem hk, List.any_append]; simp
theorem insU_sz (w : Int) (l : List ByteArray) (t : ByteArray) : szL Mk.sz (insU w l t) ≤ szL Mk.sz l + 1 + t.size := by
  unfold insU
  cases getR w (sumS t w) l with
  | some o => simp only; omega
  | none => simp only; rw [insR'_sz]; exact Nat.le_refl _
theorem insAll_sz (w : Int) : ∀ (b a : List ByteArray), szL Mk.sz (insAll w a b) ≤ szL Mk.sz a + szL Mk.sz b
  | [], a => by show szL Mk.sz a ≤ _; omega
  | t :: b, a => by
    have h1 := insU_sz w a t
    have h2 := insAll_sz w b (insU w a t)
    have e : szL Mk.sz (t :: b) = 1 + t.size + szL Mk.sz b := by rw [szL_cons']; rfl
    show szL Mk.sz (insAll w (insU w a t) b) ≤ _
    omega
theorem clash1_mem {w : Int} {a : List ByteArray} : ∀ {b : List ByteArray} {x t : ByteArray}, clash1 w a b = some (x, t) → x ∈ a ∧ t ∈ b
  | [], _, _, h => by cases h
  | u :: b, x, t, h => by
    rw [clash1] at h
    cases hg : getR w (sumS u w) a with
    | none => rw [hg] at h; have := clash1_mem h; exact ⟨this.1, by simp [this.2]⟩
    | some y =>
      rw [hg] at h
      simp only at h
      split at h
      · have := clash1_mem h; exact ⟨this.1, by simp [this.2]⟩
      · cases h; exact ⟨(getR_mem hg).1, by simp⟩
theorem mergeR_sz (x y : TStore) : Mk.sz (mergeR x y) ≤ Mk.sz x + Mk.sz y := by
  have e1 : Mk.sz x = 0 + (szL Mk.sz x.2.1 + szL Mk.sz x.2.2) := rfl
  have e2 : Mk.sz y = 0 + (szL Mk.sz y.2.1 + szL Mk.sz y.2.2) := rfl
  unfold mergeR
  split
  · show 0 + ((0 + (0 + 0)) + (0 + 0)) ≤ _; omega
  · cases hc : clash1 x.1 x.2.1 y.2.1 with
    | some z =>
      obtain ⟨a, b⟩ := z
      have := clash1_mem hc
      have h1 := szL_mem this.1
      have h2 := szL_mem this.2
      show 0 + ((0 + (0 + 0)) + (a.size + b.size)) ≤ _
      omega
    | none =>
      simp only
      split
      · show 0 + ((0 + (0 + 0)) + (0 + 0)) ≤ _; omega
      · have h1 := insAll_sz x.1 y.2.1 x.2.1
        have h2 : szL Mk.sz (x.2.2 ++ newRecs x.2.2 y.2.2) ≤ szL Mk.sz x.2.2 + szL Mk.sz y.2.2 := by
          rw [szL_app]; have := szL_filter Mk.sz (fun r => !(x.2.2.any fun z => decide (z = r))) y.2.2
          have e : szL Mk.sz (newRecs x.2.2 y.2.2) ≤ szL Mk.sz y.2.2 := this
          omega
        show 0 + ((0 + (szL Mk.sz (insAll x.1 x.2.1 y.2.1) + szL Mk.sz (x.2.2 ++ newRecs x.2.2 y.2.2))) + (0 + 0)) ≤ _
        omega
theorem Acc.bub {α : Type} [Dat α] {lo n : Nat} {A : AH} {s : Sl} {l : List α} {G : List Nat} (h : Acc lo A s l G) (k : s.nl = true ∨ s.b < n) (h0 : 0 < n) : s.b < n := by
  cases h with
  | nil => exact h0
  | empty b o => rcases k with k | k; cases k; exact k
  | own h1 h2 h3 h4 h5 h6 h7 => rcases k with k | k; cases k; exact k
theorem rise_drop {w : Int} {l : List ByteArray} (h : Rising w l) {j : Nat} (hj : j < l.length) : ∀ t ∈ l.drop (j + 1), slt (sumS l[j] w) (sumS t w) := by
  intro t ht
  obtain ⟨k, hk, rfl⟩ := List.mem_iff_getElem.1 ht
  rw [List.length_drop] at hk
  rw [List.getElem_drop]
  exact h.lt (by omega) (by omega)
theorem drop_mem {α : Type} {l : List α} {j : Nat} (hj : j < l.length) : l[j] ∈ l.drop j := by
  rw [List.drop_eq_getElem_cons hj]; exact List.mem_cons_self
theorem drop_app {α : Type} {out l : List α} {p : Nat} (hp : p < l.length) : (out ++ [l[p]]) ++ l.drop (p + 1) = out ++ l.drop p := by
  rw [List.drop_eq_getElem_cons hp, List.append_assoc]; rfl
theorem mem_take_succ {α : Type} {l : List α} {p : Nat} {z : α} (hp : p < l.length) (h : z ∈ l.take (p + 1)) : z ∈ l.take p ∨ z = l[p] := by
  rw [List.take_succ_eq_append_getElem hp] at h
  rcases List.mem_append.1 h with h | h
  · exact .inl h
  · exact .inr (List.mem_singleton.1 h)
end Go.AM
namespace Go.AM
open Go
set_option linter.unusedVariables false
set_option linter.unusedSimpArgs false
def arrSl2 (b o n sz l : Nat) : Option Nat → Option Value
  | some h => if l ≤ h ∧ h ≤ n ∧ n < BIG then some (Sl.mk false b (if n = l then o else o + l * sz) (h - l) (n - l)).v else none
  | none => none
def arrSl (b o : Nat) (hi : Option Value) : Option (Nat × TypeId × Nat) → Option Nat → Option Value
  | some (n, _, sz), some l => arrSl2 b o n sz l (aBound hi n)
  | _, _ => none
theorem aSlice_arr (P : Program) (A : AH) (t : TypeId) (b o : Nat) (lo hi : Option Value) : aSlice P A t (.pointer (some ⟨b, o, none⟩)) lo hi none = arrSl b o hi (tArray P t) (aBound lo 0) := by
  unfold aSlice arrSl
  cases tArray P t with
  | none => rfl
  | some q =>
    obtain ⟨n, e, sz⟩ := q
    cases aBound lo 0 with
    | none => rfl
    | some l =>
      simp only
      unfold arrSl2
      cases aBound hi n with
      | none => rfl
      | some h =>
        simp only
        by_cases c : l ≤ h ∧ h ≤ n ∧ n < BIG
        · rw [if_pos c, if_pos c]
          by_cases hn : n = l
          · rw [if_pos hn, if_pos hn]; simp only [Sl.v, Bool.false_eq_true, if_false]
          · rw [if_neg hn, if_neg hn, ptr_add]; simp only [Sl.v, Bool.false_eq_true, if_false]
        · rw [if_neg c, if_neg c]
/-- Parts of arrays, as equations. -/
theorem amA2 :
    (∀ P A t b o lo hi, aSlice P A t (.pointer (some ⟨b, o, none⟩)) lo hi none = arrSl b o hi (tArray P t) (aBound lo 0)) ∧ (∀ b o hi n e sz l, arrSl b o hi (some (n, e, sz)) (some l) = arrSl2 b o n sz l (aBound hi n)) ∧
    (∀ b o n sz l h, n < BIG → l ≤ h → h ≤ n → n ≠ l → arrSl2 b o n sz l (some h) = some (Sl.mk false b (o + l * sz) (h - l) (n - l)).v) :=
  ⟨aSlice_arr, fun _ _ _ _ _ _ _ => rfl, fun b o n sz l h h1 h2 h3 h4 => by
    show (if l ≤ h ∧ h ≤ n ∧ n < BIG then some (Sl.mk false b (if n = l then o else o + l * sz) (h - l) (n - l)).v else none) = _
    have c : l ≤ h ∧ h ≤ n ∧ n < BIG := ⟨h2, h3, h1⟩
    rw [if_pos c, if_neg h4]⟩
/-- The powers of ten lie under the variable of number g. -/
def Pow (g : Nat) (A : AH) : Prop := ∃ c e, A.get g = .cells c e ∧ g < A.size ∧ 20 ≤ c.length ∧ ∀ i, i < 20 → c[i]? = some (.int .u64 (10 ^ i : Nat))
theorem Pow.ext {g : Nat} {A A' : AH} (h : Pow g A) (hE : Ext A A') : Pow g A' := by
  obtain ⟨c, e, h1, h2, h3, h4⟩ := h
  exact ⟨c, e, (hE.get _ h2).trans h1, Nat.lt_of_lt_of_le h2 hE.size, h3, h4⟩
theorem dec2 {n : Nat} (h1 : 10 ≤ n) (h2 : n < 100) : decS n = ⟨#[UInt8.ofNat (48 + n / 10), UInt8.ofNat (48 + n % 10)]⟩ := by
  rw [decS_ge (by omega), decS_lt (by omega)]; rfl
theorem dec3 {n : Nat} (h1 : 100 ≤ n) (h2 : n < 1000) : decS n = ⟨#[UInt8.ofNat (48 + n / 100), UInt8.ofNat (48 + n / 10 % 10), UInt8.ofNat (48 + n % 10)]⟩ := by
  rw [decS_ge (by omega), decS_ge (by omega), decS_lt (by omega)]
  have e : n / 10 / 10 = n / 100 := by omega
  rw [e]; rfl
theorem dec4 {n : Nat} (h1 : 1000 ≤ n) (h2 : n < 10000) : decS n = ⟨#[UInt8.ofNat (48 + n / 1000), UInt8.ofNat (48 + n / 100 % 10), UInt8.ofNat (48 + n / 10 % 10), UInt8.ofNat (48 + n % 10)]⟩ := by
  rw [decS_ge (by omega), decS_ge (by omega), decS_ge (by omega), decS_lt (by omega)]
  have e : n / 10 / 10 / 10 = n / 1000 := by omega
  have e2 : n / 10 / 10 = n / 100 := by omega
  rw [e, e2]; rfl
/-- The decimals of the numbers below a hundred, two digits each. -/
def smL : ByteArray := ⟨#[48, 48, 48, 49, 48, 50, 48, 51, 48, 52, 48, 53, 48, 54, 48, 55, 48, 56, 48, 57, 49, 48, 49, 49, 49, 50, 49, 51, 49, 52, 49, 53, 49, 54, 49, 55, 49, 56, 49, 57, 50, 48, 50, 49, 50, 50, 50, 51, 50, 52, 50, 53, 50, 54, 50, 55, 50, 56, 50, 57, 51, 48, 51, 49, 51, 50, 51, 51, 51, 52, 51, 53, 51, 54, 51, 55, 51, 56, 51, 57, 52, 48, 52, 49, 52, 50, 52, 51, 52, 52, 52, 53, 52, 54, 52, 55, 52, 56, 52, 57, 53, 48, 53, 49, 53, 50, 53, 51, 53, 52, 53, 53, 53, 54, 53, 55, 53, 56, 53, 57, 54, 48, 54, 49, 54, 50, 54, 51, 54, 52, 54, 53, 54, 54, 54, 55, 54, 56, 54, 57, 55, 48, 55, 49, 55, 50, 55, 51, 55, 52, 55, 53, 55, 54, 55, 55, 55, 56, 55, 57, 56, 48, 56, 49, 56, 50, 56, 51, 56, 52, 56, 53, 56, 54, 56, 55, 56, 56, 56, 57, 57, 48, 57, 49, 57, 50, 57, 51, 57, 52, 57, 53, 57, 54, 57, 55, 57, 56, 57, 57]⟩
set_option maxRecDepth 20000 in
theorem smL_size : smL.size = 200 := rfl
set_option maxRecDepth 20000 in
theorem smL_all : ∀ k, k < 100 → bget smL (2 * k) = UInt8.ofNat (48 + k / 10) ∧ bget smL (2 * k + 1) = UInt8.ofNat (48 + k % 10) ∧ smL.extract (2 * k) (2 * k + 2) = ⟨#[UInt8.ofNat (48 + k / 10), UInt8.ofNat (48 + k % 10)]⟩ := by decide
def dgL : ByteArray := ⟨#[48, 49, 50, 51, 52, 53, 54, 55, 56, 57, 97, 98, 99, 100, 101, 102, 103, 104, 105, 106, 107, 108, 109, 110, 111, 112, 113, 114, 115, 116, 117, 118, 119, 120, 121, 122]⟩
theorem dgL_all : ∀ k, k < 10 → dgL.extract k (k + 1) = ⟨#[UInt8.ofNat (48 + k)]⟩ := by decide
end Go.AM
namespace Go.AM
open Go
set_option linter.unusedVariables false
set_option linter.unusedSimpArgs false
/-- Texts on a stack: a row from its beginning. -/
def Stk (lo : Nat) (A : AH) (s : Sl) (l : List ByteArray) : Prop :=
  (s = Sl.nil ∧ l = []) ∨ (s.nl = false ∧ lo ≤ s.b ∧ s.b < A.size ∧ s.o = 0 ∧ s.len = l.length ∧ ∃ c, A.get s.b = .cells c 1 ∧ l.length ≤ c.length ∧ c.take l.length = l.map Value.string ∧ (s.cap = BIG ∨ (s.len ≤ s.cap ∧ s.cap ≤ c.length ∧ s.cap < BIG)) ∧ ∀ t ∈ l, t.size < BIG)
theorem reps_map {A : AH} : ∀ {l : List ByteArray}, (∀ t ∈ l, t.size < BIG) → Reps A l (l.map Value.string) []
  | [], _ => .nil
  | t :: l, h => Reps.cons (F := []) (G := []) (show [Value.string t] = [Value.string t] ∧ ([] : List Nat) = [] ∧ t.size < BIG from ⟨rfl, rfl, h t (by simp)⟩) (reps_map fun x hx => h x (by simp [hx]))
section
variable {P : Program} {ro lo : Nat} {A A' : AH} {s : Sl} {l : List ByteArray} {t : TypeId}
theorem Stk.nil : Stk lo A Sl.nil [] := .inl ⟨rfl, rfl⟩
theorem Stk.len (h : Stk lo A s l) : s.len = l.length := by
  rcases h with ⟨rfl, rfl⟩ | ⟨_, _, _, _, h, _⟩
  · rfl
  · exact h
theorem Stk.slr (h : Stk lo A s l) : ∃ F, SlR A s l F ∧ ∀ b ∈ F, b = s.b ∧ lo ≤ b ∧ b < A.size ∧ s.nl = false := by
  rcases h with ⟨rfl, rfl⟩ | ⟨h1, h2, h3, h4, h5, c, h6, h7, h8, h9, h10⟩
  · exact ⟨[], .nil rfl rfl rfl, by simp⟩
  · refine ⟨[s.b], .inB ⟨h1, h3, h5, ?_, c, l.map Value.string, [], h6, ?_, ?_, reps_map h10, rfl⟩, fun b hb => ?_⟩
    · rcases h9 with h | ⟨h, _, k⟩
      · exact .inl h
      · exact .inr ⟨h, k⟩
    · show s.o + s.len * 1 ≤ c.length; omega
    · show (c.drop s.o).take (s.len * 1) = _; rw [h4, h5, Nat.mul_one, List.drop_zero, h8]
    · rw [List.mem_singleton.1 hb]; exact ⟨rfl, h2, h3, h1⟩
theorem Stk.frame (h : Stk lo A s l) (hz : A.size ≤ A'.size) (hg : s.nl = false → A'.get s.b = A.get s.b) : Stk lo A' s l := by
  rcases h with h | ⟨h1, h2, h3, h4, h5, c, h6, h7⟩
  · exact .inl h
  · exact .inr ⟨h1, h2, by omega, h4, h5, c, (hg h1).trans h6, h7⟩
theorem Stk.ext (h : Stk lo A s l) (hE : Ext A A') : Stk lo A' s l := by
  rcases h with h | ⟨h1, h2, h3, h4, h5, c, h6, h7⟩
  · exact .inl h
  · exact .inr ⟨h1, h2, Nat.lt_of_lt_of_le h3 hE.size, h4, h5, c, (hE.get _ h3).trans h6, h7⟩
/-- s[:i] -/
theorem Stk.upto (h : Stk lo A s l) (ht : tElemSize P t = some 1) {i : Nat} (hi : i ≤ l.length) :
    ∃ s', (∀ k, aSlice P A t s.v none (some (.int k i)) none = some s'.v) ∧ Stk lo A s' (l.take i) ∧ s'.nl = s.nl ∧ s'.b = s.b := by
  have hb1 : ∀ k d, aBound (some (.int k (i : Int))) d = some i := fun k d => by simp [aBound]
  have hb0 : aBound none 0 = some 0 := rfl
  rcases h with ⟨rfl, rfl⟩ | ⟨h1, h2, h3, h4, h5, c, h6, h7, h8, h9, h10⟩
  · have : i = 0 := by simpa using hi
    subst this
    refine ⟨.nil, fun k => ?_, .inl ⟨rfl, rfl⟩, rfl, rfl⟩
    have hb : (0 : Nat) < BIG := by decide
    simp only [Sl.v_nil, aSlice, ht, hb1, hb0, hb, Nat.le_refl, and_self, if_true, Nat.sub_zero]
  · have e : i ≤ s.len := by omega
    have htk : c.take i = (l.take i).map Value.string := by
      have := congrArg (List.take i) h8
      rw [List.take_take, Nat.min_eq_left hi] at this
      rw [this, List.map_take]
    have hli : (l.take i).length = i := by rw [List.length_take]; omega
    have hmem : ∀ t ∈ l.take i, t.size < BIG := fun t ht => h10 t (List.mem_of_mem_take ht)
    rcases h9 with h9 | ⟨h9, h9', h9''⟩
    · refine ⟨⟨false, s.b, s.o, i, BIG⟩, fun k => ?_, .inr ⟨rfl, h2, h3, h4, by rw [hli], c, h6, by omega, by rw [hli]; exact htk, .inl rfl, hmem⟩, h1.symm, rfl⟩
      simp only [Sl.v, h1, aSlice, ht, hb1, hb0, h9, h6, Nat.lt_irrefl, e, Nat.zero_le, and_self, if_true, if_false, Bool.false_eq_true, ptr_add, Nat.zero_mul, Nat.add_zero, Nat.sub_zero]
    · refine ⟨⟨false, s.b, s.o, i, s.cap⟩, fun k => ?_, .inr ⟨rfl, h2, h3, h4, by rw [hli], c, h6, by omega, by rw [hli]; exact htk, .inr ⟨by simp; omega, h9', h9''⟩, hmem⟩, h1.symm, rfl⟩
      simp only [Sl.v, h1, aSlice, ht, hb1, hb0, h9'', e, Nat.zero_le, and_self, if_true, Bool.false_eq_true, if_false, Option.map_some, ptr_add, Nat.zero_mul, Nat.add_zero, Nat.sub_zero, ite_self]
/-- s[:i:i] -/
theorem Stk.upto3 (h : Stk lo A s l) (ht : tElemSize P t = some 1) {i : Nat} (hi : i ≤ l.length) (hil : i < BIG) :
    ∃ s', (∀ k k', aSlice P A t s.v none (some (.int k i)) (some (.int k' i)) = some s'.v) ∧ Stk lo A s' (l.take i) ∧ s'.nl = s.nl ∧ s'.b = s.b ∧ s'.len = i ∧ s'.cap = i := by
  have hb1 : ∀ k d, aBound (some (.int k (i : Int))) d = some i := fun k d => by simp [aBound]
  have hb0 : aBound none 0 = some 0 := rfl
  rcases h with ⟨rfl, rfl⟩ | ⟨h1, h2, h3, h4, h5, c, h6, h7, h8, h9, h10⟩
  · have : i = 0 := by simpa using hi
    subst this
    refine ⟨.nil, fun k k' => ?_, .inl ⟨rfl, rfl⟩, rfl, rfl, rfl, rfl⟩
    simp only [Sl.v_nil, aSlice, ht, hb1, hb0, hil, Nat.le_refl, and_self, if_true, Nat.sub_zero]
  · have e : i ≤ s.len := by omega
    have htk : c.take i = (l.take i).map Value.string := by
      have := congrArg (List.take i) h8
      rw [List.take_take, Nat.min_eq_left hi] at this
      rw [this, List.map_take]
    have hli : (l.take i).length = i := by rw [List.length_take]; omega
    have hmem : ∀ t ∈ l.take i, t.size < BIG := fun t ht => h10 t (List.mem_of_mem_take ht)
    refine ⟨⟨false, s.b, s.o, i, i⟩, fun k k' => ?_, .inr ⟨rfl, h2, h3, h4, by rw [hli], c, h6, by omega, by rw [hli]; exact htk, .inr ⟨Nat.le_refl _, by simp; omega, hil⟩, hmem⟩, h1.symm, rfl, rfl, rfl⟩
    simp only [Sl.v, h1, aSlice, ht, hb1, hb0, e, hil, Nat.zero_le, Nat.le_refl, and_self, if_true, Bool.false_eq_true, if_false, Option.map_some, ptr_add, Nat.zero_mul, Nat.add_zero, Nat.sub_zero, ite_self]
theorem take_map_len {c : List Value} {l : List ByteArray} (h : c.take l.length = l.map Value.string) (hl : l.length ≤ c.length) : ∀ xs : List ByteArray, (c.take l.length ++ xs.map Value.string).take (l ++ xs).length = (l ++ xs).map Value.string := by
  intro xs
  rw [h, ← List.map_append, List.take_of_length_le (by rw [List.length_map]; exact Nat.le_refl _)]
/-- Texts are put on a stack whose row is full. -/
theorem Stk.app (h : Stk lo A s l) (hlo : lo ≤ A.size) (hc : s.cap = s.len) (ht : tElemSize P t = some 1) {x : Value} {xs : List ByteArray} {vs : List Value} (hsrc : aSource A 1 x = some (xs.length, vs)) (hx : Reps A xs vs []) (hlim : l.length + xs.length < 4294967296) :
    ∃ s' A', aAppend P ro A t s.v x = some (s'.v, A') ∧ Stk lo A' s' (l ++ xs) ∧ Ext A A' ∧ (s'.nl = s.nl ∧ s'.b = s.b ∨ A.size ≤ s'.b) := by
  have hlen := h.len
  have hcb : s.cap < BIG := by rw [hc, hlen]; unfold BIG; omega
  by_cases h0 : xs = []
  · subst h0
    have hv : s.v = .slice (if s.nl then none else some ⟨s.b, s.o, none⟩) s.len s.cap := rfl
    refine ⟨s, A, ?_, by simpa using h, Ext.refl A, .inl ⟨rfl, rfl⟩⟩
    rcases h with ⟨rfl, rfl⟩ | ⟨h1, _⟩
    · have hl2 : (0 : Nat) < LIM := by decide
      simp only [Sl.v_nil, aAppend, ht, hsrc, List.length_nil, hl2, Nat.add_zero, if_true, ne_eq, not_true_eq_false, or_self, if_false]
    · have hl2 : s.len + 0 < LIM := by rw [hlen]; exact hlim
      simp only [Sl.v, h1, aAppend, ht, hsrc, List.length_nil, hl2, if_true, hcb, hc, Nat.le_refl, and_self, Bool.false_eq_true, if_false]
      rw [← hc]; simp only [hcb, if_true]
  · obtain ⟨F, hF, hFb⟩ := h.slr
    obtain ⟨s', A', h1, h2, h3, h4⟩ := app_full (ro := ro) hF hc hcb ht hsrc hx (by cases xs with | nil => exact absurd rfl h0 | cons a r => simp) hlim
    refine ⟨s', A', h1, ?_, h3, ?_⟩
    · have hne : l ++ xs ≠ [] := by simp [h0]
      generalize l ++ xs = k at h2 hne
      cases h2 with
      | nil => exact absurd rfl hne
      | empty b o => exact absurd rfl hne
      | @own b n c cs l G k1 k2 k3 k4 k5 k6 k7 =>
        have hcs : ∀ {k : List ByteArray} {cs : List Value}, Reps A' k cs [] → cs = k.map Value.string ∧ ∀ t ∈ k, t.size < BIG := by
          intro k
          induction k with
          | nil => intro cs h; cases h; exact ⟨rfl, by simp⟩
          | cons a k ih =>
            intro cs h
            generalize hG : ([] : List Nat) = G at h
            cases h with
            | @cons _ _ c cs2 F1 G1 hx h =>
              obtain ⟨rfl, rfl, hz⟩ := hx
              simp only [List.nil_append] at hG
              subst hG
              obtain ⟨e1, e2⟩ := ih h
              subst e1
              exact ⟨rfl, fun t ht => by rcases List.mem_cons.1 ht with rfl | ht; exact hz; exact e2 t ht⟩
        obtain ⟨e1, e2⟩ := hcs k7
        subst e1
        have hll : (k.map Value.string).length = k.length := List.length_map _
        have hlob : lo ≤ b := Nat.le_trans hlo k1
        refine .inr ⟨rfl, hlob, k2, rfl, k4, _, k6, by rw [hll]; exact Nat.le_refl _, by rw [← hll, List.take_length], ?_, e2⟩
        rcases k5 with k5 | ⟨k5, k5'⟩
        · exact .inl k5
        · exact .inr ⟨by simp; omega, by rw [hll]; simp; omega, by simp; omega⟩
    · have hne : l ++ xs ≠ [] := by simp [h0]
      exact .inr (h2.lt hne).2.1
end
/-! ### A test in the midst -/
section
variable {P : Program} {ro : Nat} {X : FuncId → List Value → AH → ARes → AH → Prop}
theorem condCut {id : Nat} {a b : Code} {K : Env → AH → Prop} {Q : Post} {e : Env} {A : AH} {t : Bool} (M : Env → AH → Prop)
    (h : CondB (RunC P ro X a (blockQ id (thenQ M Q))) (RunC P ro X b (blockQ id (thenQ M Q))) e A t) (k : ∀ e A, M e A → K e A) : CondB (RunC P ro X a (blockQ id (thenQ K Q))) (RunC P ro X b (blockQ id (thenQ K Q))) e A t := by
  have hm : ∀ x e A, blockQ id (thenQ M Q) x e A → blockQ id (thenQ K Q) x e A := fun x e A => blockQ.mono (fun x e A => thenQ.mono k (fun _ _ _ h => h) x e A) x e A
  cases t
  · exact RunC.mono b hm e A h
  · exact RunC.mono a hm e A h
end
theorem nofoot_TOp {A : AH} {x : TOp} {cs F} (h : Dat.rep A x cs F) : F = [] := by
  obtain ⟨_, _, _, _, _, rfl, ⟨_, rfl, _⟩, _, _, _, _, _, rfl, ⟨_, rfl⟩, _, _, _, _, _, rfl, ⟨_, rfl⟩, _, rfl⟩ := h
  rfl
theorem Tab.extx {g p : Nat} {A A' : AH} (h : Tab g A) (hX : ExtX [p] A A') {c7 : List Value} (hp : A.get p = .cells c7 7) : Tab g A' := by
  obtain ⟨s, F, h1, h2, h3⟩ := h
  have hgp : g ≠ p := by rintro rfl; rw [h1] at hp; cases hp
  refine ⟨s, F, (hX.get g h2 (by simpa using hgp)).trans h1, Nat.lt_of_lt_of_le h2 hX.size, h3.extx hX fun b hb => ?_⟩
  have hbp : b ≠ p := by
    rintro rfl
    cases h3 with
    | nil _ _ hF => subst hF; cases hb
    | empty _ _ _ _ hF => subst hF; cases hb
    | inB h =>
      obtain ⟨_, _, _, _, c, cs, G, h5, _, _, h8, rfl⟩ := h
      have hG : G = [] := h8.nofoot nofoot_TOp
      subst hG
      rw [List.mem_singleton.1 hb] at hp
      rw [h5] at hp
      have : (4 : Nat) = 7 := by injection hp
      omega
  simpa using hbp
theorem Pow.extx {g p : Nat} {A A' : AH} (h : Pow g A) (hX : ExtX [p] A A') {c7 : List Value} {e7 : Nat} (hp : A.get p = .cells c7 e7) (hl : c7.length < 20) : Pow g A' := by
  obtain ⟨c, e, h1, h2, h3, h4⟩ := h
  have hgp : g ≠ p := by rintro rfl; rw [h1] at hp; cases hp; omega
  exact ⟨c, e, (hX.get g h2 (by simpa using hgp)).trans h1, Nat.lt_of_lt_of_le h2 hX.size, h3, h4⟩
end Go.AM
namespace Go.AM
open Go
set_option linter.unusedVariables false
set_option linter.unusedSimpArgs false
section
variable {P : Program} {ro lo : Nat} {A A' : AH} {s : Sl} {l : List ByteArray} {t : TypeId}
theorem setCells_one (c : List Value) (n : Nat) (v : Value) (h : n < c.length) : (setCells c n [v]).length = c.length ∧ (setCells c n [v]).take (n + 1) = c.take n ++ [v] := by
  show (c.set n v).length = _ ∧ (c.set n v).take (n + 1) = _
  refine ⟨List.length_set, ?_⟩
  rw [List.take_add_one, List.take_set_of_le (Nat.le_refl n), List.getElem?_set_self h]
  rfl
theorem Stk.push (h : Stk lo A s l) (hro : ro ≤ lo) (hlo : lo ≤ A.size) (ht : tElemSize P t = some 1) {x : Value} {v : ByteArray} (hsrc : aSource A 1 x = some (1, [.string v])) (hv : v.size < BIG) (hlim : l.length + 1 < 4294967296) :
    ∃ s' A', aAppend P ro A t s.v x = some (s'.v, A') ∧ Stk lo A' s' (l ++ [v]) ∧ A.size ≤ A'.size ∧ (∀ b, b < A.size → (s.nl = true ∨ b ≠ s.b) → A'.get b = A.get b) ∧ s'.nl = false ∧ (s'.b = s.b ∧ s.nl = false ∨ A.size ≤ s'.b) := by
  have hL : l.length + 1 < LIM := hlim
  have hmem : (∀ t ∈ l, t.size < BIG) → ∀ t ∈ l ++ [v], t.size < BIG := fun hl t ht => by
    rcases List.mem_append.1 ht with h | h
    · exact hl t h
    · rw [List.mem_singleton.1 h]; exact hv
  have hll : (l ++ [v]).length = l.length + 1 := by simp
  have hmap : (l ++ [v]).map Value.string = l.map Value.string ++ [.string v] := by simp
  have own : ∀ (A1 : AH), A1.size = A.size → (∀ t ∈ l, t.size < BIG) → Stk lo (A1.new (.cells (l.map Value.string ++ [.string v]) 1)) ⟨false, A.size, 0, l.length + 1, BIG⟩ (l ++ [v]) := fun A1 hz hl =>
    .inr ⟨rfl, hlo, by show A.size < A1.size + 1; omega, rfl, hll.symm, _, by show (A1.new _).get A.size = _; rw [← hz]; exact AH.get_new_self _ _, by rw [hll]; simp, by rw [hmap, hll]; exact List.take_of_length_le (by simp), .inl rfl, hmem hl⟩
  rcases h with ⟨rfl, rfl⟩ | ⟨h1, h2, h3, h4, h5, c, h6, h7, h8, h9, h10⟩
  · refine ⟨⟨false, A.size, 0, 1, BIG⟩, A.new (.cells [.string v] 1), ?_, own A rfl (by simp), by simp only [AH.size_new]; omega, fun b hb _ => AH.get_new_other (by omega), rfl, .inr (Nat.le_refl _)⟩
    have hl3 : 0 + 1 < LIM := by simpa using hL
    simp only [Sl.v_nil, aAppend, ht, hsrc, hl3, if_true, ne_eq, not_true_eq_false, or_self, if_false, Nat.one_ne_zero]
    rfl
  · have hL2 : s.len + 1 < LIM := by rw [h5]; exact hL
    have hold : aRow A ⟨s.b, 0, none⟩ (l.length * 1) = some (l.map Value.string) := by
      rw [aRow_eq, h6]
      simp only [rowK, List.drop_zero, Nat.mul_one, h8]
      simp [h7]
    have hfresh : ∀ b, b < A.size → (s.nl = true ∨ b ≠ s.b) → (A.new (.cells (l.map Value.string ++ [.string v]) 1)).get b = A.get b := fun b hb _ => AH.get_new_other (by omega)
    rcases h9 with h9 | ⟨h9, h9', h9''⟩
    · refine ⟨⟨false, A.size, 0, l.length + 1, BIG⟩, (A.put s.b .dead).new (.cells (l.map Value.string ++ [.string v]) 1), ?_, own (A.put s.b .dead) rfl h10, by simp only [AH.size_new, AH.size_put]; omega, fun b hb hn => ?_, rfl, .inr (Nat.le_refl _)⟩
      · have hro2 : ro ≤ s.b := Nat.le_trans hro h2
        simp only [Sl.v, h1, h4, h5, aAppend, ht, hsrc, hL, if_true, h9, Nat.lt_irrefl, if_false, Bool.false_eq_true, hro2, and_self, hold, h6]
      · rw [AH.get_new_other (by simp only [AH.size_put]; omega), AH.get_put_other (by rcases hn with h | h; rw [h1] at h; cases h; exact h)]
    · by_cases hc : l.length + 1 ≤ s.cap
      · obtain ⟨g1, g2⟩ := setCells_one c l.length (.string v) (by omega)
        refine ⟨⟨false, s.b, 0, l.length + 1, s.cap⟩, A.put s.b (.cells (setCells c l.length [.string v]) 1), ?_, .inr ⟨rfl, h2, h3, rfl, hll.symm, _, AH.get_put_self _ _ _, by rw [hll, g1]; omega, by rw [hll, g2, h8, hmap], .inr ⟨by simp; omega, by rw [g1]; exact h9', h9''⟩, hmem h10⟩, Nat.le_refl _, fun b hb hn => AH.get_put_other (by rcases hn with h | h; rw [h1] at h; cases h; exact h), rfl, .inl ⟨rfl, h1⟩⟩
        have hro2 : ro ≤ s.b := Nat.le_trans hro h2
        have hcl : l.length + 1 ≤ c.length := by omega
        simp only [Sl.v, h1, h4, h5, aAppend, ht, hsrc, hL, if_true, h9'', if_false, Bool.false_eq_true, Nat.one_ne_zero, false_and, hc, h6, hro2, Nat.zero_add, Nat.mul_one, hcl, and_self]
      · by_cases h0 : l.length = 0
        · have hl0 : l = [] := by simpa using h0
          subst hl0
          refine ⟨⟨false, A.size, 0, 1, BIG⟩, A.new (.cells [.string v] 1), ?_, own A rfl (by simp), by simp only [AH.size_new]; omega, fun b hb _ => AH.get_new_other (by omega), rfl, .inr (Nat.le_refl _)⟩
          simp only [List.length_nil] at h5 hc hL
          simp only [Sl.v, h1, h4, h5, aAppend, ht, hsrc, hL, if_true, h9'', if_false, Bool.false_eq_true, Nat.one_ne_zero, false_and, hc]
        · refine ⟨⟨false, A.size, 0, l.length + 1, BIG⟩, A.new (.cells (l.map Value.string ++ [.string v]) 1), ?_, own A rfl h10, by simp only [AH.size_new]; omega, hfresh, rfl, .inr (Nat.le_refl _)⟩
          simp only [Sl.v, h1, h4, h5, aAppend, ht, hsrc, hL, if_true, h9'', if_false, Bool.false_eq_true, Nat.one_ne_zero, false_and, hc, h0, hold]
end
end Go.AM
namespace Go.AM
open Go
set_option linter.unusedVariables false
set_option linter.unusedSimpArgs false
/-- A look is answered; the run does not go on yet. -/
def toldS (a : Bool) (n : ByteArray) (m : Mach) (r : TReply) : Tick :=
  if a = false then .go ⟨m.pc, m.st ++ [flagS r.1], m.steps, m.looks⟩
  else if r.1 = false then .fin 4 n m.steps else if r.2.1 ≠ 0 then .fin 5 n m.steps else .go ⟨m.pc, m.st ++ [r.2.2], m.steps, m.looks⟩
/-- One instruction, with the reply to its look where there is one. -/
def stepS (p : TProgram) (l : List TReply) (m : Mach) : Tick :=
  match tickR p m with
  | .look a n m' => (match l[m.looks]? with | none => .look a n m' | some r => toldS a n m' r)
  | t => t
theorem insR_look {x : TIns} {m m' : Mach} {a : Bool} {n : ByteArray} (h : insR x m = .look a n m') : m'.steps = m.steps + 1 ∧ m'.looks = m.looks + 1 := by
  unfold insR at h
  repeat' split at h
  all_goals first | (cases h; exact ⟨rfl, rfl⟩) | cases h
theorem tickR_look {p : TProgram} {m m' : Mach} {a : Bool} {n : ByteArray} (h : tickR p m = .look a n m') : m.steps ≠ 2000 ∧ m'.steps = m.steps + 1 ∧ m'.looks = m.looks + 1 := by
  unfold tickR at h
  cases hp : p[m.pc]? with
  | none => rw [hp] at h; cases h
  | some x =>
    rw [hp] at h
    simp only at h
    repeat' split at h
    · cases h
    · cases h
    · exact ⟨by assumption, insR_look h⟩
theorem playR_nil (p : TProgram) (t : Tick) : playR p t [] = t := by cases t <;> rfl
theorem playR_finS (p : TProgram) (c : Int) (t : ByteArray) (s : Nat) (l : List TReply) : playR p (.fin c t s) l = .fin c t s := by cases l <;> rfl
/-- The whole run, by its first step. -/
theorem playS {p : TProgram} {l : List TReply} {m : Mach} (h : m.steps ≤ 2000) : playR p (runR p m) (l.drop m.looks) = match stepS p l m with | .go m' => playR p (runR p m') (l.drop m'.looks) | t => t := by
  rw [runR_eq h]
  unfold stepS
  cases ht : tickR p m with
  | go m' => simp only; rw [(tickR_go ht).2.2]
  | fin c t s => simp only; exact playR_finS p c t s _
  | look a n m' =>
    obtain ⟨_, _, h3⟩ := tickR_look ht
    simp only
    cases hl : l[m.looks]? with
    | none =>
      simp only
      rw [List.drop_eq_nil_of_le (List.getElem?_eq_none_iff.1 hl)]
      rfl
    | some r =>
      obtain ⟨hi, rfl⟩ := List.getElem?_eq_some_iff.1 hl
      simp only
      rw [List.drop_eq_getElem_cons hi]
      show playR p (toldR p a n m' l[m.looks]) _ = _
      unfold toldR toldS
      generalize l[m.looks] = r
      by_cases k1 : a = false
      · rw [if_pos k1, if_pos k1]; simp only; rw [h3]
      rw [if_neg k1, if_neg k1]
      by_cases k2 : r.1 = false
      · rw [if_pos k2, if_pos k2]; exact playR_finS p _ _ _ _
      rw [if_neg k2, if_neg k2]
      by_cases k3 : r.2.1 ≠ 0
      · rw [if_pos k3, if_pos k3]; exact playR_finS p _ _ _ _
      rw [if_neg k3, if_neg k3]; simp only; rw [h3]
theorem toldS_go {a : Bool} {n : ByteArray} {m m' : Mach} {r : TReply} (h : toldS a n m r = .go m') : m'.steps = m.steps ∧ m'.looks = m.looks := by
  unfold toldS at h
  repeat' split at h
  all_goals first | (cases h; exact ⟨rfl, rfl⟩) | cases h
theorem stepS_go {p : TProgram} {l : List TReply} {m m' : Mach} (h : stepS p l m = .go m') : m.steps ≠ 2000 ∧ m'.steps = m.steps + 1 := by
  unfold stepS at h
  cases ht : tickR p m with
  | go m2 => rw [ht] at h; simp only at h; cases h; have := tickR_go ht; exact ⟨this.1, this.2.1⟩
  | fin => rw [ht] at h; cases h
  | look a n m2 =>
    have h3 := tickR_look ht
    rw [ht] at h
    simp only at h
    cases hl : l[m.looks]? with
    | none => rw [hl] at h; cases h
    | some r => rw [hl] at h; have := toldS_go h; exact ⟨h3.1, this.1.trans h3.2.1⟩
theorem stepS_ok {p : TProgram} (hp : ProgOk p) {l : List TReply} (hl : ∀ r ∈ l, r.2.2.size ≤ 2000) {m : Mach} (hm : MachOk m) :
    (∀ m', stepS p l m = .go m' → MachOk m') ∧ (∀ a n m', stepS p l m = .look a n m' → NameOk n ∧ MachOk m' ∧ m'.st.length < 50) ∧ (∀ c t s, stepS p l m = .fin c t s → 0 ≤ c ∧ c ≤ 5 ∧ t.size ≤ 2000 ∧ s ≤ 2000) := by
  have hk := tickR_ok hp hm
  unfold stepS
  cases ht : tickR p m with
  | go m2 => exact ⟨fun m' h => by cases h; exact hk.1 _ ht, fun _ _ _ h => by (cases h), fun _ _ _ h => by (cases h)⟩
  | fin c t s => exact ⟨fun _ h => by (cases h), fun _ _ _ h => by (cases h), fun _ _ _ h => by cases h; have := hk.2.2 _ _ _ ht; exact ⟨this.1, by omega, this.2.2.1, this.2.2.2⟩⟩
  | look a n m2 =>
    obtain ⟨h1, h2, h3⟩ := hk.2.1 _ _ _ ht
    simp only
    cases hx : l[m.looks]? with
    | none => exact ⟨fun _ h => by (cases h), fun _ _ _ h => by cases h; exact ⟨h1, h2, h3⟩, fun _ _ _ h => by (cases h)⟩
    | some r =>
      obtain ⟨hi, rfl⟩ := List.getElem?_eq_some_iff.1 hx
      have hr := hl _ (List.getElem_mem hi)
      have hn := name_size h1
      have hf := flagS_size l[m.looks].1
      have hs := h2.steps
      simp only
      unfold toldS
      generalize l[m.looks] = r at hr hf
      by_cases k1 : a = false
      · rw [if_pos k1]; exact ⟨fun _ h => by cases h; exact push_ok h2 h3 (by omega), fun _ _ _ h => by (cases h), fun _ _ _ h => by (cases h)⟩
      rw [if_neg k1]
      by_cases k2 : r.1 = false
      · rw [if_pos k2]; exact ⟨fun _ h => by (cases h), fun _ _ _ h => by (cases h), fun _ _ _ h => by cases h; exact ⟨by omega, by omega, by omega, hs⟩⟩
      rw [if_neg k2]
      by_cases k3 : r.2.1 ≠ 0
      · rw [if_pos k3]; exact ⟨fun _ h => by (cases h), fun _ _ _ h => by (cases h), fun _ _ _ h => by cases h; exact ⟨by omega, by omega, by omega, hs⟩⟩
      rw [if_neg k3]; exact ⟨fun _ h => by cases h; exact push_ok h2 h3 hr, fun _ _ _ h => by (cases h), fun _ _ _ h => by (cases h)⟩
end Go.AM
namespace Go.AM
open Go
set_option linter.unusedVariables false
set_option linter.unusedSimpArgs false
/-! ### A result read from its form -/
def formIll (s : ByteArray) : Prop := (s.size : Int) < 2 ∨ ((bget s 0).toNat : Int) < 48 ∨ (53 : Int) < (bget s 0).toNat ∨ ((bget s 1).toNat : Int) ≠ 58 ∨ (2000 : Int) < s.size - 2
instance (s : ByteArray) : Decidable (formIll s) := by unfold formIll; infer_instance
def readT (s : ByteArray) : Option (Int × ByteArray) := if formIll s then none else some (((bget s 0).toNat : Int) - 48, s.extract 2 s.size)
theorem readT_ok {s : ByteArray} {x : Int × ByteArray} (h : readT s = some x) : 0 ≤ x.1 ∧ x.1 ≤ 5 ∧ x.2.size ≤ 2000 := by
  unfold readT at h
  split at h
  · cases h
  · rename_i hb
    cases h
    have h1 : ¬ ((s.size : Int) < 2) := fun h => hb (.inl h)
    have h2 : ¬ (((bget s 0).toNat : Int) < 48) := fun h => hb (.inr (.inl h))
    have h3 : ¬ ((53 : Int) < (bget s 0).toNat) := fun h => hb (.inr (.inr (.inl h)))
    have h5 : ¬ ((2000 : Int) < s.size - 2) := fun h => hb (.inr (.inr (.inr (.inr h))))
    refine ⟨?_, ?_, ?_⟩
    · show (0 : Int) ≤ _ - 48; omega
    · show (_ : Int) - 48 ≤ 5; omega
    · show (s.extract 2 s.size).size ≤ 2000; rw [ByteArray.size_extract]; omega
theorem readT_empty : readT ⟨#[]⟩ = none := rfl
/-! ### Replies out of a record -/
/-- What a look of a record is answered; as the implementation says it. -/
def replyR (w : Int) (l : List ByteArray) (g : TGlance) : Option TReply :=
  if g.2.1 = false then
    (if g.2.2 = sumS (flagS true) w then some (true, 0, ⟨#[]⟩) else if g.2.2 = sumS (flagS false) w then some (false, 0, ⟨#[]⟩) else none)
  else (readT ((getR w g.2.2 l).getD ⟨#[]⟩)).map fun x => (decide (x.1 ≠ 4 ∨ x.2 ≠ g.1), x.1, x.2)
/-- .. as the specification says it. -/
def replyS (w : Int) (l : List ByteArray) (g : TGlance) : Option TReply :=
  if g.2.1 = false then
    (if g.2.2 = sumS (flagS true) w then some (true, 0, ⟨#[]⟩) else if g.2.2 = sumS (flagS false) w then some (false, 0, ⟨#[]⟩) else none)
  else (readT ((getR w g.2.2 l).getD ⟨#[]⟩)).map fun x => if x.1 = 4 ∧ x.2 = g.1 then (false, 0, ⟨#[]⟩) else (true, x.1, x.2)
theorem replyR_ok {w : Int} {l : List ByteArray} {g : TGlance} {r : TReply} (h : replyR w l g = some r) : ¬ replyBad r := by
  have e0 : (⟨#[]⟩ : ByteArray).size = 0 := rfl
  unfold replyR at h
  split at h
  · split at h
    · cases h; rintro (h | h | h) <;> simp only at h <;> omega
    · split at h
      · cases h; rintro (h | h | h) <;> simp only at h <;> omega
      · cases h
  · cases hr : readT ((getR w g.2.2 l).getD ⟨#[]⟩) with
    | none => rw [hr] at h; cases h
    | some x =>
      rw [hr] at h
      cases h
      obtain ⟨h1, h2, h3⟩ := readT_ok hr
      rintro (h | h | h) <;> simp only at h <;> omega
theorem replyS_ok {w : Int} {l : List ByteArray} {g : TGlance} {r : TReply} (h : replyS w l g = some r) : ¬ replyBad r := by
  have e0 : (⟨#[]⟩ : ByteArray).size = 0 := rfl
  unfold replyS at h
  split at h
  · split at h
    · cases h; rintro (h | h | h) <;> simp only at h <;> omega
    · split at h
      · cases h; rintro (h | h | h) <;> simp only at h <;> omega
      · cases h
  · cases hr : readT ((getR w g.2.2 l).getD ⟨#[]⟩) with
    | none => rw [hr] at h; cases h
    | some x =>
      rw [hr] at h
      cases h
      obtain ⟨h1, h2, h3⟩ := readT_ok hr
      dsimp only
      split
      · rintro (h | h | h) <;> simp only at h <;> omega
      · rintro (h | h | h) <;> simp only at h <;> omega
theorem reply_none {w : Int} {l : List ByteArray} {g : TGlance} : replyS w l g = none ↔ replyR w l g = none := by
  unfold replyS replyR
  split
  · exact Iff.rfl
  · cases readT ((getR w g.2.2 l).getD ⟨#[]⟩) <;> simp
/-- Both answers lead on alike. -/
theorem reply_told {w : Int} {l : List ByteArray} {g : TGlance} {y y' : TReply} (h : replyR w l g = some y) (h' : replyS w l g = some y') (p : TProgram) (m : Mach) : toldR p g.2.1 g.1 m y' = toldR p g.2.1 g.1 m y := by
  unfold replyR at h
  unfold replyS at h'
  by_cases hg : g.2.1 = false
  · rw [if_pos hg] at h h'
    rw [h] at h'
    cases h'
    rfl
  · rw [if_neg hg] at h h'
    cases hr : readT ((getR w g.2.2 l).getD ⟨#[]⟩) with
    | none => rw [hr] at h; cases h
    | some x =>
      rw [hr] at h h'
      have hy : y = (decide (x.1 ≠ 4 ∨ x.2 ≠ g.1), x.1, x.2) := (Option.some.inj h).symm
      have hy' : y' = if x.1 = 4 ∧ x.2 = g.1 then (false, 0, ⟨#[]⟩) else (true, x.1, x.2) := (Option.some.inj h').symm
      by_cases hx : x.1 = 4 ∧ x.2 = g.1
      · have hd : decide (x.1 ≠ 4 ∨ x.2 ≠ g.1) = false := decide_eq_false (by rintro (h | h); exact h hx.1; exact h hx.2)
        rw [if_pos hx] at hy'
        rw [hd] at hy
        subst hy hy'
        unfold toldR
        rw [if_neg hg, if_neg hg, if_pos rfl, if_pos rfl]
      · have hd : decide (x.1 ≠ 4 ∨ x.2 ≠ g.1) = true := decide_eq_true (by
          by_cases h4 : x.1 = 4
          · exact .inr fun h => hx ⟨h4, h⟩
          · exact .inl h4)
        rw [if_neg hx] at hy'
        rw [hd] at hy
        rw [hy, hy']
/-! ### Vouching -/
/-- What stands at a run's end. -/
def vouchEnd (w : Int) (l : List ByteArray) (out : ByteArray) (c : Int) (t : ByteArray) : Int :=
  match getR w out l with
  | some x => if x = formR c t [] then 0 else 4
  | none => 4
def vouchGo (w : Int) (l : List ByteArray) (p : TProgram) (out : ByteArray) : Tick → List TGlance → Int
  | .look a n m, g :: gs => if g.1 ≠ n ∨ g.2.1 ≠ a then 2 else match replyR w l g with
    | none => 3
    | some y => vouchGo w l p out (toldR p a n m y) gs
  | .look _ _ _, [] => 2
  | .fin c t _, [] => vouchEnd w l out c t
  | .fin _ _ _, _ :: _ => 2
  | .go _, _ => 2
def vouchS (w : Int) (l : List ByteArray) (r : TRecord) : Int := vouchGo w l r.1 r.2.2 (startR r.1) r.2.1
def vouchedR (x : TStore) : TStore := if StoreOk x then (x.1, x.2.1, x.2.2.filter fun r => decide (vouchS x.1 x.2.1 r = 0)) else zeroSt
theorem filter_take_succ {α : Type} (f : α → Bool) (l : List α) (i : Nat) (h : i < l.length) : (l.take (i + 1)).filter f = (l.take i).filter f ++ (if f l[i] then [l[i]] else []) := by
  rw [List.take_succ_eq_append_getElem h, List.filter_append]
  congr 1
  cases hf : f l[i] <;> simp [hf]
theorem szM_filter {α : Type} [Mk α] (f : α → Bool) : ∀ l : List α, szL Mk.sz (l.filter f) ≤ szL Mk.sz l
  | [] => Nat.le_refl _
  | x :: l => by
    have := szM_filter f l
    rw [List.filter_cons]
    split
    · rw [szL_cons', szL_cons']; omega
    · rw [szL_cons']; omega
theorem vouchedR_sz (x : TStore) : Mk.sz (vouchedR x) ≤ Mk.sz x := by
  unfold vouchedR
  split
  · have := szM_filter (fun r => decide (vouchS x.1 x.2.1 r = 0)) x.2.2
    have e1 : Mk.sz x = 0 + (szL Mk.sz x.2.1 + szL Mk.sz x.2.2) := rfl
    have e2 : ∀ k : List TRecord, Mk.sz ((x.1, x.2.1, k) : TStore) = 0 + (szL Mk.sz x.2.1 + szL Mk.sz k) := fun _ => rfl
    rw [e1, e2]; omega
  · exact Nat.zero_le _
def vouchR (x : TStore) (r : TRecord) : Int := if StoreOk x ∧ RecOk r x.1 then vouchS x.1 x.2.1 r else 1
theorem vouchGo_fin {w : Int} {l : List ByteArray} {p : TProgram} {out : ByteArray} {c : Int} {t : ByteArray} {s : Nat} {gs : List TGlance} : vouchGo w l p out (.fin c t s) gs = if gs = [] then vouchEnd w l out c t else 2 := by
  cases gs <;> rfl
theorem vouchGo_end {w : Int} {l : List ByteArray} {p : TProgram} {out : ByteArray} {a : Bool} {n : ByteArray} {m : Mach} : vouchGo w l p out (.look a n m) [] = 2 := rfl
theorem vouchGo_ne {w : Int} {l : List ByteArray} {p : TProgram} {out : ByteArray} {a : Bool} {n : ByteArray} {m : Mach} {g : TGlance} {gs : List TGlance} (h : g.1 ≠ n ∨ g.2.1 ≠ a) : vouchGo w l p out (.look a n m) (g :: gs) = 2 := if_pos h
theorem vouchGo_none {w : Int} {l : List ByteArray} {p : TProgram} {out : ByteArray} {m : Mach} {g : TGlance} {gs : List TGlance} (h : replyR w l g = none) : vouchGo w l p out (.look g.2.1 g.1 m) (g :: gs) = 3 := by
  show (if _ then _ else _) = _
  rw [if_neg (by rintro (h | h) <;> exact h rfl), h]
theorem vouchGo_some {w : Int} {l : List ByteArray} {p : TProgram} {out : ByteArray} {m : Mach} {g : TGlance} {gs : List TGlance} {y : TReply} (h : replyR w l g = some y) : vouchGo w l p out (.look g.2.1 g.1 m) (g :: gs) = vouchGo w l p out (toldR p g.2.1 g.1 m y) gs := by
  show (if _ then _ else _) = _
  rw [if_neg (by rintro (h | h) <;> exact h rfl), h]
/-- A turn by the run as it stands. -/
theorem nextR_play {p : TProgram} (hp : ProgOk p) {l : List TReply} (hl : l.length ≤ 200) (hr : ∀ r ∈ l, ¬ replyBad r) : nextR p l = turnOf (playR p (startR p) l) := by
  unfold nextR
  rw [if_neg (by rintro (h | h | h); exact h hp; omega; exact h hr)]
theorem nextR_sz (p : TProgram) (l : List TReply) : (nextR p l).2.2.1.size ≤ 2000 ∧ (nextR p l).2.2.2.2.1.size ≤ 2000 := by
  unfold nextR
  split
  · exact ⟨by decide, by decide⟩
  · rename_i h
    have hp : ProgOk p := Classical.byContradiction fun k => h (.inl k)
    have hr : ∀ r ∈ l, r.2.2.size ≤ 2000 := fun r hr => Nat.le_of_not_lt fun k => h (.inr (.inr fun a => a r hr (.inl k)))
    have := playR_ok hp l _ (startR_ok hp) hr
    generalize playR p (startR p) l = t at this
    cases t with
    | fin c t s => exact ⟨this.2.2.1, by show 0 ≤ 2000; omega⟩
    | go m => exact this.elim
    | look a n m => exact ⟨by show 0 ≤ 2000; omega, by have := name_size this.1; show n.size ≤ 2000; omega⟩
theorem turn_sz (p : TProgram) (l : List TReply) : Mk.sz (nextR p l) < 4294967296 := by
  have := nextR_sz p l
  have e : Mk.sz (nextR p l) = 0 + (0 + ((nextR p l).2.2.1.size + (0 + ((nextR p l).2.2.2.2.1.size + 0)))) := rfl
  omega
theorem playR_snoc {p : TProgram} {l : List TReply} {t : Tick} {a : Bool} {n : ByteArray} {m : Mach} (h : playR p t l = .look a n m) (y : TReply) : playR p t (l ++ [y]) = toldR p a n m y := by
  rw [playR_app, h]
  show playR p (toldR p a n m y) [] = _
  exact playR_nil p _
end Go.AM
namespace Go.AM
open Go
set_option linter.unusedVariables false
set_option linter.unusedSimpArgs false
section
variable {P : Program} {ro : Nat} {X : FuncId → List Value → AH → ARes → AH → Prop}
theorem condCutN {a b : Code} {K : Env → AH → Prop} {Q : Post} {e : Env} {A : AH} {t : Bool} (M : Env → AH → Prop)
    (h : CondB (RunC P ro X a (thenQ M Q)) (RunC P ro X b (thenQ M Q)) e A t) (k : ∀ e A, M e A → K e A) : CondB (RunC P ro X a (thenQ K Q)) (RunC P ro X b (thenQ K Q)) e A t := by
  have hm : ∀ x e A, thenQ M Q x e A → thenQ K Q x e A := fun x e A => thenQ.mono k (fun _ _ _ h => h) x e A
  cases t
  · exact RunC.mono b hm e A h
  · exact RunC.mono a hm e A h
end
/-- The text that is taken first: the top, where one is taken at all. -/
def takeA (tk : Nat) (l : List ByteArray) : ByteArray := if 0 < tk then topA l else ⟨#[]⟩
def takeB (tk : Nat) (l : List ByteArray) : ByteArray := if 1 < tk then topB l else ⟨#[]⟩
theorem takeA_mem {tk : Nat} {l : List ByteArray} (h : tk ≤ l.length) (hl : ∀ t ∈ l, t.size ≤ 2000) : (takeA tk l).size ≤ 2000 := by
  unfold takeA
  split
  · exact hl _ (topA_mem (by omega))
  · show 0 ≤ 2000; omega
theorem topB_mem {l : List ByteArray} (h : 1 < l.length) : topB l ∈ l := by
  unfold topB
  rw [List.getD_eq_getElem?_getD, List.getElem?_eq_getElem (by omega)]
  exact List.getElem_mem _
theorem takeB_mem {tk : Nat} {l : List ByteArray} (h : tk ≤ l.length) (hl : ∀ t ∈ l, t.size ≤ 2000) : (takeB tk l).size ≤ 2000 := by
  unfold takeB
  split
  · exact hl _ (topB_mem (by omega))
  · show 0 ≤ 2000; omega
theorem plainR_take {x : TIns} {tk : Nat} (h1 : 1 ≤ x.1) (h2 : x.1 ≤ 11) (ht : opTake x.1 = tk) (l : List ByteArray) : plainR x (takeA tk l) (takeB tk l) = plainR x (topA l) (topB l) := by
  obtain ⟨o, t, n⟩ := x
  simp only at h1 h2 ht
  have : o = 1 ∨ o = 2 ∨ o = 3 ∨ o = 4 ∨ o = 5 ∨ o = 6 ∨ o = 7 ∨ o = 8 ∨ o = 9 ∨ o = 10 ∨ o = 11 := by omega
  rcases this with rfl | rfl | rfl | rfl | rfl | rfl | rfl | rfl | rfl | rfl | rfl
  · rfl
  · obtain rfl : tk = 2 := by have h : opTake 2 = 2 := rfl; omega
    rfl
  · obtain rfl : tk = 1 := by have h : opTake 3 = 1 := rfl; omega
    rfl
  · obtain rfl : tk = 1 := by have h : opTake 4 = 1 := rfl; omega
    rfl
  · obtain rfl : tk = 1 := by have h : opTake 5 = 1 := rfl; omega
    rfl
  · obtain rfl : tk = 2 := by have h : opTake 6 = 2 := rfl; omega
    rfl
  · obtain rfl : tk = 1 := by have h : opTake 7 = 1 := rfl; omega
    rfl
  · obtain rfl : tk = 2 := by have h : opTake 8 = 2 := rfl; omega
    rfl
  · rfl
  · rfl
  · rfl
theorem plainR_put {x : TIns} {pt : Nat} (h1 : 1 ≤ x.1) (h2 : x.1 ≤ 11) (ht : opPut x.1 = pt) (a b : ByteArray) : (plainR x a b).length = pt := by
  obtain ⟨o, t, n⟩ := x
  simp only at h1 h2 ht
  have : o ≤ 9 ∨ o = 10 ∨ o = 11 := by omega
  rcases this with h | rfl | rfl
  · have := plainR_len (o, t, n) ⟨h1, h⟩ a b
    rw [this]; simp only; rw [ht]; rfl
  · have h : opPut 10 = 0 := rfl
    show 0 = pt; omega
  · have h : opPut 11 = 0 := rfl
    show 0 = pt; omega
/-- What an instruction up to 11 does to a run, all in all. -/
def PlainOk (x : TIns) (m : Mach) (nx : Nat) : Prop :=
  insR x m = if ∀ s ∈ plainR x (topA m.st) (topB m.st), s.size ≤ 2000 then .go ⟨nx, restR x m.st ++ plainR x (topA m.st) (topB m.st), m.steps + 1, m.looks⟩ else .fin 2 (decS m.pc) (m.steps + 1)
theorem PlainOk.plain {x : TIns} {m : Mach} (h : 1 ≤ x.1 ∧ x.1 ≤ 9) : PlainOk x m (m.pc + 1) := by
  unfold PlainOk insR
  rw [if_neg (by omega), if_neg (by omega), if_neg (by omega), if_neg (by omega), if_neg (by omega)]
theorem PlainOk.jump {x : TIns} {m : Mach} {nx : Nat} (h : x.1 = 10 ∨ x.1 = 11) (k : insR x m = .go ⟨nx, restR x m.st, m.steps + 1, m.looks⟩) : PlainOk x m nx := by
  have hp : ∀ a b, plainR x a b = [] := fun a b => List.eq_nil_of_length_eq_zero (plainR_put (by omega) (by omega) (pt := 0) (by rcases h with h | h <;> rw [h] <;> rfl) a b)
  unfold PlainOk
  rw [hp, k, if_pos (by intro s hs; cases hs), List.append_nil]
theorem Stk.lo {lo lo' : Nat} {A : AH} {s : Sl} {l : List ByteArray} (h : Stk lo A s l) (hl : lo' ≤ lo) : Stk lo' A s l := by
  rcases h with h | ⟨h1, h2, h3⟩
  · exact .inl h
  · exact .inr ⟨h1, Nat.le_trans hl h2, h3⟩
/-- A look, its reply at hand where there is one. -/
theorem stepS_look {p : TProgram} {l : List TReply} {m : Mach} {a : Bool} {n : ByteArray} {m' : Mach} (hl : m'.looks = m.looks) (h : tickR p m = if ¬ NameOk n then .fin 2 (decS m.pc) m'.steps else if m.looks = 200 then .fin 3 ⟨#[]⟩ m'.steps else .look a n ⟨m'.pc, m'.st, m'.steps, m'.looks + 1⟩) :
    (if ¬ NameOk n then .fin 2 (decS m.pc) m'.steps else if m'.looks = 200 then .fin 3 ⟨#[]⟩ m'.steps else match l[m'.looks]? with | none => .look a n ⟨m'.pc, m'.st, m'.steps, m'.looks + 1⟩ | some r => toldS a n ⟨m'.pc, m'.st, m'.steps, m'.looks + 1⟩ r) = stepS p l m := by
  unfold stepS
  rw [h]
  by_cases h1 : ¬ NameOk n
  · rw [if_pos h1, if_pos h1]
  · rw [if_neg h1, if_neg h1, hl]
    by_cases h2 : m.looks = 200
    · rw [if_pos h2, if_pos h2]
    · rw [if_neg h2, if_neg h2]
      first | done | (cases l[m.looks]? <;> rfl)
end Go.AM
