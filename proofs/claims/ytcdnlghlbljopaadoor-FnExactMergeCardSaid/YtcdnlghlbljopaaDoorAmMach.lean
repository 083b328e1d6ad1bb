/- Plain: runs of programs, look by look. -/
import Derived.Test.YtcdnlghlbljopaaDoorAmDrop
namespace Go.AM
open Go
set_option linter.unusedVariables false
set_option linter.unusedSimpArgs false
/-! ### Words -/
def gapAt (s : ByteArray) (i : Nat) : Bool := decide (i = s.size) || (decide (((bget s i).toNat : Int) = 32) || decide (((bget s i).toNat : Int) = 10))
/-- The pieces from a place on; one may be open. -/
def piecesN (s : ByteArray) : Nat → Nat → Option Nat → List ByteArray
  | 0, _, _ => []
  | k + 1, i, none => if gapAt s i then piecesN s k (i + 1) none else piecesN s k (i + 1) (some i)
  | k + 1, i, some f => if gapAt s i then s.extract f i :: piecesN s k (i + 1) none else piecesN s k (i + 1) (some f)
def piecesR (s : ByteArray) (i : Nat) (o : Option Nat) : List ByteArray := piecesN s (s.size + 1 - i) i o
theorem piecesR_end {s : ByteArray} {i : Nat} (h : s.size < i) (o : Option Nat) : piecesR s i o = [] := by
  unfold piecesR; rw [show s.size + 1 - i = 0 by omega]; cases o <;> rfl
theorem piecesR_none {s : ByteArray} {i : Nat} (h : i ≤ s.size) : piecesR s i none = if gapAt s i then piecesR s (i + 1) none else piecesR s (i + 1) (some i) := by
  unfold piecesR; rw [show s.size + 1 - i = (s.size + 1 - (i + 1)) + 1 by omega]; rfl
theorem piecesR_some {s : ByteArray} {i f : Nat} (h : i ≤ s.size) : piecesR s i (some f) = if gapAt s i then s.extract f i :: piecesR s (i + 1) none else piecesR s (i + 1) (some f) := by
  unfold piecesR; rw [show s.size + 1 - i = (s.size + 1 - (i + 1)) + 1 by omega]; rfl
def wordR (s : ByteArray) (n : Nat) : ByteArray := (piecesR s 0 none).getD n ⟨#[]⟩
/-! ### One instruction -/
def flagS (b : Bool) : ByteArray := if b then ⟨#[49]⟩ else ⟨#[48]⟩
structure Mach where
  pc : Nat
  st : List ByteArray
  steps : Nat
  looks : Nat
inductive Tick where
  | fin (code : Int) (text : ByteArray) (steps : Nat)
  | go (m : Mach)
  | look (ask : Bool) (name : ByteArray) (m : Mach)
/-- What an instruction puts; a is the top, b the one below it. -/
def plainR (x : TIns) (a b : ByteArray) : List ByteArray :=
  if x.1 = 1 then [x.2.1] else if x.1 = 2 then [b ++ a] else if x.1 = 3 then [a.extract 0 (min x.2.2.toNat a.size)] else if x.1 = 4 then [a.extract (min x.2.2.toNat a.size) a.size] else
  if x.1 = 5 then [wordR a x.2.2.toNat] else if x.1 = 6 then [flagS (decide (b = a))] else if x.1 = 7 then [a, a] else if x.1 = 8 then [a, b] else []
def topA (l : List ByteArray) : ByteArray := l.getD (l.length - 1) ⟨#[]⟩
def topB (l : List ByteArray) : ByteArray := l.getD (l.length - 2) ⟨#[]⟩
def tooFew (x : TIns) (l : List ByteArray) : Prop := l.length < (opTake x.1).toNat ∨ 50 < l.length - (opTake x.1).toNat + (opPut x.1).toNat
instance (x : TIns) (l : List ByteArray) : Decidable (tooFew x l) := by unfold tooFew; infer_instance
def restR (x : TIns) (l : List ByteArray) : List ByteArray := l.take (l.length - (opTake x.1).toNat)
def insR (x : TIns) (m : Mach) : Tick :=
  if x.1 = 14 then .fin 1 (topA m.st) (m.steps + 1) else if x.1 = 15 then .fin 0 (topA m.st) (m.steps + 1) else
  if x.1 = 12 ∨ x.1 = 13 then
    (if ¬ NameOk (topA m.st) then .fin 2 (decS m.pc) (m.steps + 1) else if m.looks = 200 then .fin 3 ⟨#[]⟩ (m.steps + 1) else .look (decide (x.1 = 12)) (topA m.st) ⟨m.pc + 1, restR x m.st, m.steps + 1, m.looks + 1⟩)
  else if x.1 = 10 then .go ⟨x.2.2.toNat, restR x m.st, m.steps + 1, m.looks⟩
  else if x.1 = 11 then .go ⟨if topA m.st = ⟨#[]⟩ ∨ topA m.st = ⟨#[48]⟩ then x.2.2.toNat else m.pc + 1, restR x m.st, m.steps + 1, m.looks⟩
  else if ∀ s ∈ plainR x (topA m.st) (topB m.st), s.size ≤ 2000 then .go ⟨m.pc + 1, restR x m.st ++ plainR x (topA m.st) (topB m.st), m.steps + 1, m.looks⟩
  else .fin 2 (decS m.pc) (m.steps + 1)
def tickR (p : TProgram) (m : Mach) : Tick :=
  match p[m.pc]? with
  | none => .fin 2 (decS m.pc) m.steps
  | some x => if m.steps = 2000 then .fin 3 ⟨#[]⟩ m.steps else if tooFew x m.st then .fin 2 (decS m.pc) (m.steps + 1) else insR x m
def runN (p : TProgram) : Nat → Mach → Tick
  | 0, m => .fin 3 ⟨#[]⟩ m.steps
  | k + 1, m => match tickR p m with
    | .go m' => runN p k m'
    | t => t
def runR (p : TProgram) (m : Mach) : Tick := runN p (2001 - m.steps) m
theorem insR_go {x : TIns} {m m' : Mach} (h : insR x m = .go m') : m'.steps = m.steps + 1 ∧ m'.looks = m.looks := by
  unfold insR at h
  repeat' split at h
  all_goals first | (cases h; exact ⟨rfl, rfl⟩) | cases h
theorem tickR_go {p : TProgram} {m m' : Mach} (h : tickR p m = .go m') : m.steps ≠ 2000 ∧ m'.steps = m.steps + 1 ∧ m'.looks = m.looks := by
  unfold tickR at h
  cases hp : p[m.pc]? with
  | none => rw [hp] at h; cases h
  | some x =>
    rw [hp] at h
    simp only at h
    repeat' split at h
    · cases h
    · cases h
    · exact ⟨by assumption, insR_go h⟩
theorem runR_eq {p : TProgram} {m : Mach} (h : m.steps ≤ 2000) : runR p m = match tickR p m with | .go m' => runR p m' | t => t := by
  unfold runR
  rw [show 2001 - m.steps = (2000 - m.steps) + 1 by omega, runN]
  cases ht : tickR p m with
  | go m' =>
    have := tickR_go ht
    simp only
    rw [show 2001 - m'.steps = 2000 - m.steps by omega]
  | fin => rfl
  | look => rfl
/-- A run that is going on. -/
structure MachOk (m : Mach) : Prop where
  pc : m.pc ≤ 200
  st : m.st.length ≤ 50
  txt : ∀ s ∈ m.st, s.size ≤ 2000
  steps : m.steps ≤ 2000
  looks : m.looks ≤ 200
def m0 : Mach := ⟨0, [], 0, 0⟩
theorem m0_ok : MachOk m0 := ⟨by decide, by decide, (by intro s h; cases h), by decide, by decide⟩
theorem restR_sub {x : TIns} {l : List ByteArray} {s : ByteArray} (h : s ∈ restR x l) : s ∈ l := List.mem_of_mem_take h
theorem restR_len (x : TIns) (l : List ByteArray) : (restR x l).length = l.length - (opTake x.1).toNat := by
  unfold restR; rw [List.length_take]; omega
theorem plainR_len (x : TIns) (h : 1 ≤ x.1 ∧ x.1 ≤ 9) (a b : ByteArray) : (plainR x a b).length = (opPut x.1).toNat := by
  obtain ⟨o, t, n⟩ := x
  simp only at h
  have : o = 1 ∨ o = 2 ∨ o = 3 ∨ o = 4 ∨ o = 5 ∨ o = 6 ∨ o = 7 ∨ o = 8 ∨ o = 9 := by omega
  rcases this with rfl | rfl | rfl | rfl | rfl | rfl | rfl | rfl | rfl <;> rfl
theorem topA_mem {l : List ByteArray} (h : 0 < l.length) : topA l ∈ l := by
  unfold topA
  rw [List.getD_eq_getElem?_getD, List.getElem?_eq_getElem (by omega)]
  exact List.getElem_mem _
theorem opPut_look : (opPut 12).toNat = 1 ∧ (opPut 13).toNat = 1 ∧ (opTake 12).toNat = 1 ∧ (opTake 13).toNat = 1 := ⟨rfl, rfl, rfl, rfl⟩
theorem tickR_ok {p : TProgram} (hp : ProgOk p) {m : Mach} (h : MachOk m) :
    (∀ m', tickR p m = .go m' → MachOk m') ∧ (∀ a n m', tickR p m = .look a n m' → NameOk n ∧ MachOk m' ∧ m'.st.length < 50) ∧ (∀ c t s, tickR p m = .fin c t s → 0 ≤ c ∧ c ≤ 3 ∧ t.size ≤ 2000 ∧ s ≤ 2000) := by
  have hdec : (decS m.pc).size ≤ 2000 := by have := decS_size m.pc; have := h.pc; omega
  have htop : (topA m.st).size ≤ 2000 := by
    by_cases h0 : 0 < m.st.length
    · exact h.txt _ (topA_mem h0)
    · have : m.st = [] := by cases hm : m.st with | nil => rfl | cons a l => rw [hm] at h0; simp at h0
      rw [this]; show 0 ≤ _; omega
  have e0 : (⟨#[]⟩ : ByteArray).size ≤ 2000 := by decide
  unfold tickR
  cases hx : p[m.pc]? with
  | none => exact ⟨fun _ k => by (cases k), fun _ _ _ k => by (cases k), fun c t s k => by cases k; exact ⟨by omega, by omega, hdec, h.steps⟩⟩
  | some x =>
    simp only
    obtain ⟨hi, rfl⟩ := List.getElem?_eq_some_iff.1 hx
    have hI := hp.2.2 _ (List.getElem_mem hi)
    have hlen := hp.2.1
    generalize p[m.pc] = x at hI
    have hN : x.2.2.toNat ≤ 2000 := by
      have := hI.2.2.2.2.1
      have h2 : mostN x.1 ≤ 2000 := by unfold mostN; split; omega; split <;> omega
      omega
    have hJ : x.1 = 10 ∨ x.1 = 11 → x.2.2.toNat ≤ 200 := by
      have := hI.2.2.2.2.1
      rintro (e | e) <;> rw [e] at this <;> (have h2 : mostN 10 = 200 := rfl; have h3 : mostN 11 = 200 := rfl; omega)
    by_cases hs : m.steps = 2000
    · rw [if_pos hs]
      exact ⟨fun _ k => by (cases k), fun _ _ _ k => by (cases k), fun c t s k => by cases k; exact ⟨by omega, by omega, e0, h.steps⟩⟩
    rw [if_neg hs]
    by_cases hf : tooFew x m.st
    · rw [if_pos hf]
      exact ⟨fun _ k => by (cases k), fun _ _ _ k => by (cases k), fun c t s k => by cases k; exact ⟨by omega, by omega, hdec, by have := h.steps; omega⟩⟩
    rw [if_neg hf]
    have hst := h.steps
    have hlk := h.looks
    have hsl := h.st
    have hr : ∀ s ∈ restR x m.st, s.size ≤ 2000 := fun s hs => h.txt s (restR_sub hs)
    have hrl := restR_len x m.st
    have hf1 : ¬ m.st.length < (opTake x.1).toNat := fun k => hf (.inl k)
    have hf2 : ¬ 50 < m.st.length - (opTake x.1).toNat + (opPut x.1).toNat := fun k => hf (.inr k)
    unfold insR
    by_cases k14 : x.1 = 14
    · rw [if_pos k14]; exact ⟨fun _ k => by (cases k), fun _ _ _ k => by (cases k), fun c t s k => by cases k; exact ⟨by omega, by omega, htop, by omega⟩⟩
    rw [if_neg k14]
    by_cases k15 : x.1 = 15
    · rw [if_pos k15]; exact ⟨fun _ k => by (cases k), fun _ _ _ k => by (cases k), fun c t s k => by cases k; exact ⟨by omega, by omega, htop, by omega⟩⟩
    rw [if_neg k15]
    by_cases kl : x.1 = 12 ∨ x.1 = 13
    · rw [if_pos kl]
      by_cases kn : ¬ NameOk (topA m.st)
      · rw [if_pos kn]; exact ⟨fun _ k => by (cases k), fun _ _ _ k => by (cases k), fun c t s k => by cases k; exact ⟨by omega, by omega, hdec, by omega⟩⟩
      rw [if_neg kn]
      by_cases k200 : m.looks = 200
      · rw [if_pos k200]; exact ⟨fun _ k => by (cases k), fun _ _ _ k => by (cases k), fun c t s k => by cases k; exact ⟨by omega, by omega, e0, by omega⟩⟩
      rw [if_neg k200]
      have ht1 : (opTake x.1).toNat = 1 := by rcases kl with e | e <;> rw [e] <;> rfl
      refine ⟨fun _ k => by (cases k), fun a n m' k => ?_, fun c t s k => by (cases k)⟩
      cases k
      refine ⟨Classical.not_not.1 kn, ⟨by show m.pc + 1 ≤ 200; omega, by show (restR x m.st).length ≤ 50; omega, hr, by show m.steps + 1 ≤ 2000; omega, by show m.looks + 1 ≤ 200; omega⟩, by show (restR x m.st).length < 50; omega⟩
    rw [if_neg kl]
    by_cases k10 : x.1 = 10
    · rw [if_pos k10]
      exact ⟨fun m' k => by cases k; exact ⟨hJ (.inl k10), by show (restR x m.st).length ≤ 50; omega, hr, by show m.steps + 1 ≤ 2000; omega, hlk⟩, fun _ _ _ k => by (cases k), fun c t s k => by (cases k)⟩
    rw [if_neg k10]
    by_cases k11 : x.1 = 11
    · rw [if_pos k11]
      refine ⟨fun m' k => ?_, fun _ _ _ k => by (cases k), fun c t s k => by (cases k)⟩
      cases k
      refine ⟨?_, by show (restR x m.st).length ≤ 50; omega, hr, by show m.steps + 1 ≤ 2000; omega, hlk⟩
      have hq : ∀ (q : Prop) [Decidable q], (if q then x.2.2.toNat else m.pc + 1) ≤ 200 := fun q _ => by
        by_cases hq : q
        · rw [if_pos hq]; exact hJ (.inr k11)
        · rw [if_neg hq]; omega
      exact hq _
    rw [if_neg k11]
    by_cases kp : ∀ s ∈ plainR x (topA m.st) (topB m.st), s.size ≤ 2000
    · rw [if_pos kp]
      refine ⟨fun m' k => ?_, fun _ _ _ k => by (cases k), fun c t s k => by (cases k)⟩
      cases k
      have hpl := plainR_len x (by have := hI.1; have := hI.2.1; omega) (topA m.st) (topB m.st)
      refine ⟨by show m.pc + 1 ≤ 200; omega, ?_, ?_, by show m.steps + 1 ≤ 2000; omega, hlk⟩
      · show (restR x m.st ++ plainR x (topA m.st) (topB m.st)).length ≤ 50
        rw [List.length_append]; omega
      · intro s hs
        rcases List.mem_append.1 hs with h1 | h1
        · exact hr s h1
        · exact kp s h1
    · rw [if_neg kp]; exact ⟨fun _ k => by (cases k), fun _ _ _ k => by (cases k), fun c t s k => by cases k; exact ⟨by omega, by omega, hdec, by omega⟩⟩
/-! ### Whole runs -/
/-- What stands behind a run that stops. -/
def TickOk : Tick → Prop
  | .fin c t s => 0 ≤ c ∧ c ≤ 5 ∧ t.size ≤ 2000 ∧ s ≤ 2000
  | .look a n m => NameOk n ∧ MachOk m ∧ m.st.length < 50
  | .go _ => False
theorem runN_ok {p : TProgram} (hp : ProgOk p) : ∀ (k : Nat) (m : Mach), MachOk m → TickOk (runN p k m)
  | 0, m, h => ⟨by omega, by omega, by decide, h.steps⟩
  | k + 1, m, h => by
    have hk := tickR_ok hp h
    unfold runN
    cases ht : tickR p m with
    | go m' => exact runN_ok hp k m' (hk.1 m' ht)
    | fin c t s => have := hk.2.2 c t s ht; exact ⟨this.1, by omega, this.2.2.1, this.2.2.2⟩
    | look a n m' => exact hk.2.1 a n m' ht
theorem runR_ok {p : TProgram} (hp : ProgOk p) {m : Mach} (h : MachOk m) : TickOk (runR p m) := runN_ok hp _ m h
/-- A look is answered. -/
def toldR (p : TProgram) (ask : Bool) (name : ByteArray) (m : Mach) (r : TReply) : Tick :=
  if ask = false then runR p ⟨m.pc, m.st ++ [flagS r.1], m.steps, m.looks⟩
  else if r.1 = false then .fin 4 name m.steps else if r.2.1 ≠ 0 then .fin 5 name m.steps else runR p ⟨m.pc, m.st ++ [r.2.2], m.steps, m.looks⟩
theorem push_ok {m : Mach} (h : MachOk m) (hl : m.st.length < 50) {s : ByteArray} (hs : s.size ≤ 2000) : MachOk ⟨m.pc, m.st ++ [s], m.steps, m.looks⟩ :=
  ⟨h.pc, by show (m.st ++ [s]).length ≤ 50; rw [List.length_append]; simp only [List.length_cons, List.length_nil]; omega, fun x hx => by
    rcases List.mem_append.1 hx with h1 | h1
    · exact h.txt x h1
    · rw [List.mem_singleton.1 h1]; exact hs, h.steps, h.looks⟩
theorem flagS_size (b : Bool) : (flagS b).size = 1 := by cases b <;> rfl
theorem name_size {n : ByteArray} (h : NameOk n) : n.size ≤ 60 := h.2.1
theorem toldR_ok {p : TProgram} (hp : ProgOk p) {a : Bool} {n : ByteArray} {m : Mach} (h : TickOk (.look a n m)) {r : TReply} (hr : r.2.2.size ≤ 2000) : TickOk (toldR p a n m r) := by
  obtain ⟨h1, h2, h3⟩ := h
  have hn := name_size h1
  have hf := flagS_size r.1
  unfold toldR
  split
  · exact runR_ok hp (push_ok h2 h3 (by omega))
  · split
    · exact ⟨by omega, by omega, by omega, h2.steps⟩
    · split
      · exact ⟨by omega, by omega, by omega, h2.steps⟩
      · exact runR_ok hp (push_ok h2 h3 hr)
def playR (p : TProgram) : Tick → List TReply → Tick
  | .look a n m, r :: rs => playR p (toldR p a n m r) rs
  | t, _ => t
def turnOf : Tick → TTurn
  | .fin c t s => (true, c, t, false, ⟨#[]⟩, s)
  | .look a n m => (false, 0, ⟨#[]⟩, a, n, m.steps)
  | .go _ => (false, 0, ⟨#[]⟩, false, ⟨#[]⟩, 0)
def replyBad (r : TReply) : Prop := 2000 < r.2.2.size ∨ r.2.1 < 0 ∨ 7 < r.2.1
instance (r : TReply) : Decidable (replyBad r) := by unfold replyBad; infer_instance
def nextBad (p : TProgram) (l : List TReply) : Prop := ¬ ProgOk p ∨ 200 < l.length ∨ ¬ ∀ r ∈ l, ¬ replyBad r
instance (p : TProgram) (l : List TReply) : Decidable (nextBad p l) := by unfold nextBad; infer_instance
def startR (p : TProgram) : Tick := runR p m0
def nextR (p : TProgram) (l : List TReply) : TTurn := if nextBad p l then (false, 9, ⟨#[]⟩, false, ⟨#[]⟩, 0) else turnOf (playR p (startR p) l)
theorem startR_ok {p : TProgram} (hp : ProgOk p) : TickOk (startR p) := runR_ok hp m0_ok
theorem playR_ok {p : TProgram} (hp : ProgOk p) : ∀ (l : List TReply) (t : Tick), TickOk t → (∀ r ∈ l, r.2.2.size ≤ 2000) → TickOk (playR p t l)
  | [], t, h, _ => by cases t <;> exact h
  | r :: l, .fin _ _ _, h, _ => h
  | r :: l, .go _, h, _ => h.elim
  | r :: l, .look a n m, h, hr => playR_ok hp l _ (toldR_ok hp h (hr r (by simp))) (fun x hx => hr x (by simp [hx]))
theorem playR_app {p : TProgram} : ∀ (l k : List TReply) (t : Tick), playR p t (l ++ k) = playR p (playR p t l) k
  | [], k, t => by cases t <;> rfl
  | r :: l, k, .fin _ _ _ => by cases k <;> rfl
  | r :: l, k, .go _ => by cases k <;> rfl
  | r :: l, k, .look a n m => playR_app l k _
end Go.AM
