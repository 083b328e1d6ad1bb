import Derived.Test.YtjlbcofopapajaaDoorAmTX
import Derived.Test.YtjlbcofopapajaaDoorAmM
import Derived.OpenShut
namespace Go.AM
open Go
set_option linter.all false
def lies (x : TSpace) (n : ByteArray) : Prop := ¬ ((∀ s ∈ x.1, s.1 ≠ n) ∧ ∀ t ∈ x.2, t.1 ≠ n)
instance (x : TSpace) (n : ByteArray) : Decidable (lies x n) := by unfold lies; infer_instance
theorem Acc.lt {α : Type} [Dat α] {lo : Nat} {A : AH} {s : Sl} {l : List α} {G : List Nat} (h : Acc lo A s l G) (hl : l ≠ []) : s.nl = false ∧ lo ≤ s.b ∧ s.b < A.size := by
 cases h with
 | nil => exact absurd rfl hl
 | empty b o => exact absurd rfl hl
 | own h1 h2 h3 h4 h5 h6 h7 => exact ⟨rfl, h1, h2⟩
end Go.AM
namespace Go.AM
open Go
set_option linter.all false
def gapAt (s : ByteArray) (i : Nat) : Bool := decide (i = s.size) || (decide (((bget s i).toNat : Int) = 32) || decide (((bget s i).toNat : Int) = 10))
def piecesN (s : ByteArray) : Nat → Nat → Option Nat → List ByteArray
 | 0, _, _ => []
 | k + 1, i, none => if gapAt s i then piecesN s k (i + 1) none else piecesN s k (i + 1) (some i)
 | k + 1, i, some f => if gapAt s i then s.extract f i :: piecesN s k (i + 1) none else piecesN s k (i + 1) (some f)
def piecesR (s : ByteArray) (i : Nat) (o : Option Nat) : List ByteArray := piecesN s (s.size + 1 - i) i o
def wordR (s : ByteArray) (n : Nat) : ByteArray := (piecesR s 0 none).getD n ⟨#[]⟩
def flagS (b : Bool) : ByteArray := if b then ⟨#[49]⟩ else ⟨#[48]⟩
structure Mach where
 pc : Nat
 st : List ByteArray
 steps : Nat
 looks : Nat
inductive Tick where
 | fin (code : Int) (text : ByteArray) (steps : Nat)
 | go (m : Mach)
 | look (ask : Bool) (name : ByteArray) (m : Mach)
def plainR (x : TIns) (a b : ByteArray) : List ByteArray :=
 if x.1 = 1 then [x.2.1] else if x.1 = 2 then [b ++ a] else if x.1 = 3 then [a.extract 0 (min x.2.2.toNat a.size)] else if x.1 = 4 then [a.extract (min x.2.2.toNat a.size) a.size] else
 if x.1 = 5 then [wordR a x.2.2.toNat] else if x.1 = 6 then [flagS (decide (b = a))] else if x.1 = 7 then [a, a] else if x.1 = 8 then [a, b] else []
def topA (l : List ByteArray) : ByteArray := l.getD (l.length - 1) ⟨#[]⟩
def topB (l : List ByteArray) : ByteArray := l.getD (l.length - 2) ⟨#[]⟩
def tooFew (x : TIns) (l : List ByteArray) : Prop := l.length < (opTake x.1).toNat ∨ 50 < l.length - (opTake x.1).toNat + (opPut x.1).toNat
instance (x : TIns) (l : List ByteArray) : Decidable (tooFew x l) := by unfold tooFew; infer_instance
def restR (x : TIns) (l : List ByteArray) : List ByteArray := l.take (l.length - (opTake x.1).toNat)
def insR (x : TIns) (m : Mach) : Tick :=
 if x.1 = 14 then .fin 1 (topA m.st) (m.steps + 1) else if x.1 = 15 then .fin 0 (topA m.st) (m.steps + 1) else
 if x.1 = 12 ∨ x.1 = 13 then
  (if ¬ NameOk (topA m.st) then .fin 2 (decS m.pc) (m.steps + 1) else if m.looks = 200 then .fin 3 ⟨#[]⟩ (m.steps + 1) else .look (decide (x.1 = 12)) (topA m.st) ⟨m.pc + 1, restR x m.st, m.steps + 1, m.looks + 1⟩)
 else if x.1 = 10 then .go ⟨x.2.2.toNat, restR x m.st, m.steps + 1, m.looks⟩
 else if x.1 = 11 then .go ⟨if topA m.st = ⟨#[]⟩ ∨ topA m.st = ⟨#[48]⟩ then x.2.2.toNat else m.pc + 1, restR x m.st, m.steps + 1, m.looks⟩
 else if ∀ s ∈ plainR x (topA m.st) (topB m.st), s.size ≤ 2000 then .go ⟨m.pc + 1, restR x m.st ++ plainR x (topA m.st) (topB m.st), m.steps + 1, m.looks⟩
 else .fin 2 (decS m.pc) (m.steps + 1)
structure MachOk (m : Mach) : Prop where
 pc : m.pc ≤ 200
 st : m.st.length ≤ 50
 txt : ∀ s ∈ m.st, s.size ≤ 2000
 steps : m.steps ≤ 2000
 looks : m.looks ≤ 200
def replyBad (r : TReply) : Prop := 2000 < r.2.2.size ∨ r.2.1 < 0 ∨ 7 < r.2.1
instance (r : TReply) : Decidable (replyBad r) := by unfold replyBad; infer_instance
def nextBad (p : TProgram) (l : List TReply) : Prop := ¬ ProgOk p ∨ 200 < l.length ∨ ¬ ∀ r ∈ l, ¬ replyBad r
instance (p : TProgram) (l : List TReply) : Decidable (nextBad p l) := by unfold nextBad; infer_instance
end Go.AM
namespace Go.AM
open Go
set_option linter.all false
inductive PutKind where
 | same
 | clash (o : ByteArray)
 | full
 | put
end Go.AM
namespace Go.AM
open Go
set_option linter.all false
section
variable {α : Type} [Dat α] {P : Program} {A : AH} {s : Sl} {l : List α} {F : List Nat} {t : TypeId}
theorem Reps.drop {cs : List Value} {G : List Nat} (h : Reps A l cs G) : ∀ k, k ≤ l.length → ∃ G', Reps A (l.drop k) (cs.drop (k * Dat.w α)) G' ∧ ∀ b, b ∈ G' → b ∈ G := by
 induction h with
 | nil => intro k hk; have : k = 0 := by simpa using hk
          subst this; exact ⟨[], by simpa using Reps.nil, fun b hb => hb⟩
 | @cons x l c cs F G hx h ih =>
   intro k hk
   have hl := Dat.len hx
   cases k with
   | zero => exact ⟨F ++ G, by simpa using Reps.cons hx h, fun b hb => hb⟩
   | succ k =>
     obtain ⟨G', h1, h2⟩ := ih k (by simpa using hk)
     refine ⟨G', ?_, fun b hb => List.mem_append_right _ (h2 b hb)⟩
     have e0 : c.drop ((k + 1) * Dat.w α) = [] := List.drop_eq_nil_of_le (by rw [hl, Nat.succ_mul]; omega)
     rw [List.drop_append, e0, List.nil_append, hl, show (k + 1) * Dat.w α - Dat.w α = k * Dat.w α by rw [Nat.succ_mul]; omega]
     simpa using h1
theorem SlR.from (h : SlR A s l F) (ht : tElemSize P t = some (Dat.w α)) {i : Nat} (hi : i ≤ l.length) :
 ∃ s' F', (∀ k, aSlice P A t s.v (some (.int k i)) none none = some s'.v) ∧ SlR A s' (l.drop i) F' ∧ ∀ b ∈ F', b ∈ F := by
 have hlen := h.len
 have hb1 : ∀ k, aBound (some (.int k (i : Int))) 0 = some i := fun k => by simp [aBound]
 have hbn : ∀ d, aBound none d = some d := fun d => rfl
 cases h with
 | nil h hl hF =>
   subst h hl hF
   have : i = 0 := by simpa using hi
   subst this
   refine ⟨.nil, [], fun k => ?_, .nil rfl rfl rfl, by simp⟩
   have hb : (0 : Nat) < BIG := by decide
   simp only [Sl.v_nil, aSlice, ht, hb1, hbn, hb, Nat.le_refl, and_self, if_true, Nat.sub_zero]
 | empty h hn hc hl hF =>
   subst hl hF
   have : i = 0 := by simpa using hi
   subst this
   refine ⟨s, [], fun k => ?_, .empty h hn hc rfl rfl, by simp⟩
   simp only [Sl.v, h, aSlice, ht, hb1, hbn, hc, hn, Nat.le_refl, and_self, if_true, Nat.sub_zero, Nat.zero_mul, Bool.false_eq_true, if_false, Option.map_some, ptr_add, Nat.add_zero, ite_self]
 | inB h =>
   obtain ⟨h1, h2, h3, h4, c, cs, G, h5, h6, h7, h8, rfl⟩ := h
   obtain ⟨G', r1, r2⟩ := h8.drop i hi
   have hrow : ∃ c cs G2, A.get s.b = .cells c (Dat.w α) ∧ s.o + i * Dat.w α + (s.len - i) * Dat.w α ≤ c.length ∧ (c.drop (s.o + i * Dat.w α)).take ((s.len - i) * Dat.w α) = cs ∧ Reps A (l.drop i) cs G2 ∧ s.b :: G' = s.b :: G2 := by
    have em : i * Dat.w α + (s.len - i) * Dat.w α = s.len * Dat.w α := by rw [← Nat.add_mul]; congr 1; omega
    refine ⟨c, cs.drop (i * Dat.w α), G', h5, by omega, ?_, r1, rfl⟩
    rw [← h7, List.drop_take, List.drop_drop]
    congr 1
    rw [← em]; omega
   rcases h4 with h4 | ⟨h4, h4'⟩
   ·refine ⟨⟨false, s.b, s.o + i * Dat.w α, s.len - i, BIG⟩, s.b :: G', fun k => ?_, .inB ⟨rfl, h2, by simp; omega, .inl rfl, hrow⟩, fun b hb => by
     rcases List.mem_cons.1 hb with rfl | hb
     ·simp
     ·exact List.mem_cons_of_mem _ (r2 b hb)⟩
    have e : i ≤ s.len := by omega
    simp only [Sl.v, h1, aSlice, ht, hb1, hbn, h4, h5, Nat.lt_irrefl, e, Nat.le_refl, and_self, if_true, if_false, Bool.false_eq_true, ptr_add]
   ·have e : i ≤ s.len := by omega
    by_cases hci : s.cap = i
    ·refine ⟨⟨false, s.b, s.o, s.len - i, s.cap - i⟩, [], fun k => ?_, .empty rfl (by simp; omega) (by simp; omega) (by rw [List.drop_eq_nil_of_le (by omega)]) rfl, by simp⟩
     have hib : i < BIG := by omega
     simp only [Sl.v, h1, aSlice, ht, hb1, hbn, hib, e, Nat.le_refl, and_self, if_true, Bool.false_eq_true, if_false, hci]
    ·refine ⟨⟨false, s.b, s.o + i * Dat.w α, s.len - i, s.cap - i⟩, s.b :: G', fun k => ?_, .inB ⟨rfl, h2, by simp; omega, .inr ⟨by simp; omega, by simp; omega⟩, hrow⟩, fun b hb => by
      rcases List.mem_cons.1 hb with rfl | hb
      ·simp
      ·exact List.mem_cons_of_mem _ (r2 b hb)⟩
     simp only [Sl.v, h1, aSlice, ht, hb1, hbn, h4', e, Nat.le_refl, and_self, if_true, Bool.false_eq_true, if_false, hci, Option.map_some, ptr_add]
end
theorem Reps.strs {A : AH} {l : List ByteArray} {cs : List Value} {G : List Nat} (h : Reps A l cs G) : G = [] ∧ ∀ A', Reps A' l cs [] := by
 induction h with
 | nil => exact ⟨rfl, fun _ => .nil⟩
 | cons hx h ih =>
   obtain ⟨rfl, h2⟩ := ih
   obtain ⟨rfl, rfl, hz⟩ := hx
   exact ⟨rfl, fun A' => Reps.cons (F := []) (G := []) (show [Value.string _] = [Value.string _] ∧ ([] : List Nat) = [] ∧ _ from ⟨rfl, rfl, hz⟩) (h2 A')⟩
theorem app_full {P : Program} {ro : Nat} {A : AH} {t : TypeId} {s : Sl} {l xs : List ByteArray} {F : List Nat} {x : Value} {vs : List Value} (h : SlR A s l F) (hc : s.cap = s.len) (hcap : s.cap < BIG) (ht : tElemSize P t = some 1) (hsrc : aSource A 1 x = some (xs.length, vs)) (hx : Reps A xs vs []) (hn : 0 < xs.length) (hlim : l.length + xs.length < 4294967296) :
 ∃ s' A', aAppend P ro A t s.v x = some (s'.v, A') ∧ Acc A.size A' s' (l ++ xs) [] ∧ Ext A A' ∧ A'.size = A.size + 1 := by
 have hl2 : l.length + xs.length < LIM := hlim
 have own : ∀ (old : List Value), Reps A l old [] → Acc A.size (A.new (.cells (old ++ vs) 1)) ⟨false, A.size, 0, l.length + xs.length, BIG⟩ (l ++ xs) [] := fun old ho =>
  .own (Nat.le_refl _) (Nat.lt_succ_self _) (by simp) (by simp) (.inl rfl) (AH.gNs _ _) ((Reps.strs (ho.append hx)).2 _)
 have hlen := h.len
 have hb : (0 : Nat) < BIG := by decide
 have hx0 : ¬ xs.length = 0 := by omega
 cases h with
 | nil h hl hF =>
   subst h hl hF
   refine ⟨⟨false, A.size, 0, xs.length, BIG⟩, _, ?_, by have := own [] .nil; simpa using this, Ext.new _ _, rfl⟩
   have hl3 : 0 + xs.length < LIM := by simpa using hl2
   show aAppend P ro A t (.slice none 0 0) x = some (.slice (some ⟨A.size, 0, none⟩) xs.length BIG, A.new (.cells vs 1))
   have hap : appE P t 1 x = 1 := by
    generalize ([] : List Nat) = F0 at hx
    cases hx with
    | nil => simp at hn
    | cons q _ => obtain ⟨rfl, _⟩ := q; exact appE_str hsrc (by simp)
   unfold aAppend
   simp only [hap, ht, hsrc, hl3, if_true, hx0, if_false, ne_eq, not_true_eq_false, or_self]
 | empty h hn' hc' hl hF =>
   subst hl hF
   refine ⟨⟨false, A.size, 0, xs.length, BIG⟩, _, ?_, by have := own [] .nil; simpa using this, Ext.new _ _, rfl⟩
   have hl3 : 0 + xs.length < LIM := by simpa using hl2
   have hcc : s.cap = 0 := by omega
   have e : s.v = .slice (some ⟨s.b, s.o, none⟩) 0 0 := by simp only [Sl.v, h, hn', hcc, Bool.false_eq_true, if_false]
   rw [e]
   show aAppend P ro A t (.slice (some ⟨s.b, s.o, none⟩) 0 0) x = some (.slice (some ⟨A.size, 0, none⟩) xs.length BIG, A.new (.cells vs 1))
   unfold aAppend
   have hx1 : ¬ 0 + xs.length ≤ 0 := by omega
   simp only [ht, hsrc, hl3, hb, if_true, hx0, hx1, if_false, false_and]
 | inB h =>
   obtain ⟨h1, h2, h3, h4, c, cs, G, h5, h6, h7, h8, rfl⟩ := h
   have h6 : s.o + s.len * 1 ≤ c.length := h6
   have h7 : (c.drop s.o).take (s.len * 1) = cs := h7
   have hr0 := h8.strs.2 A
   have hl3 : s.len + xs.length < LIM := by rw [h3]; exact hl2
   have e : s.v = .slice (some ⟨s.b, s.o, none⟩) s.len s.len := by simp only [Sl.v, h1, hc, Bool.false_eq_true, if_false]
   have hrow : aRow A ⟨s.b, s.o, none⟩ (s.len * 1) = some cs := by rw [aRow_get h5 h6, h7]
   have hcb : s.len < BIG := by omega
   by_cases h0 : s.len = 0
   ·have hl0 : l = [] := List.eq_nil_of_length_eq_zero (by omega)
    subst hl0
    refine ⟨⟨false, A.size, 0, xs.length, BIG⟩, _, ?_, by have := own [] .nil; simpa using this, Ext.new _ _, rfl⟩
    have hl4 : 0 + xs.length < LIM := by simpa using hl2
    rw [e, h0]
    show aAppend P ro A t (.slice (some ⟨s.b, s.o, none⟩) 0 0) x = some (.slice (some ⟨A.size, 0, none⟩) xs.length BIG, A.new (.cells vs 1))
    unfold aAppend
    have hx1 : ¬ 0 + xs.length ≤ 0 := by omega
    simp only [ht, hsrc, hl4, hb, if_true, hx0, hx1, if_false, false_and]
   ·refine ⟨⟨false, A.size, 0, l.length + xs.length, BIG⟩, _, ?_, own cs hr0, Ext.new _ _, rfl⟩
    rw [e]
    show aAppend P ro A t (.slice (some ⟨s.b, s.o, none⟩) s.len s.len) x = some (.slice (some ⟨A.size, 0, none⟩) (l.length + xs.length) BIG, A.new (.cells (cs ++ vs) 1))
    rw [← h3]
    unfold aAppend
    have hx1 : ¬ s.len + xs.length ≤ s.len := by omega
    simp only [ht, hsrc, hl3, hcb, if_true, hx0, hx1, h0, if_false, false_and, hrow]
theorem SlR.copied {α : Type} [Dat α] {P : Program} {ro : Nat} {A : AH} {t : TypeId} {s : Sl} {l : List α} {F : List Nat} (h : SlR A s l F) (hnf : ∀ {A : AH} {cs : List Value} {G : List Nat}, Reps A l cs G → G = []) (ht : tElemSize P t = some (Dat.w α)) (hro : ro ≤ A.size) (hl : l.length < 4294967296) :
 ∃ s' A', aAppend P ro (A.new (.cells [] (Dat.w α))) t (Sl.mk false A.size 0 0 0).v s.v = some (s'.v, A') ∧ Acc A.size A' s' l [] ∧ Ext A A' := by
 obtain ⟨vs, G0, hsrc, hr, _⟩ := (h.ext (Ext.new A (.cells [] (Dat.w α)))).src
 obtain rfl := hnf hr
 obtain ⟨s', A1, hap, hacc, hg, _⟩ := (Acc.empty (lo := A.size) (A := A.new (.cells [] (Dat.w α))) (α := α) A.size 0).app (P := P) (ro := ro) (t := t) hro ht hsrc rfl hr (.inr (by simp)) (by simpa using hl) (by simp only [AH.zN]; omega)
 refine ⟨s', A1, hap, by simpa using hacc, ?_⟩
 exact hg.ext (Ext.new A _) (Nat.le_refl _)
def lookS (n : Nat) (v : Value) (p : Prop) : Prop := (∀ a k c, v = .slice (some a) k c → BIG ≤ c → a.block < n) ∧ p
theorem amX2 (P : Program) (ro : Nat) (X : FuncId → List Value → AH → ARes → AH → Prop) :
 (∀ n e t x lo hi mx p, lookH n e (.slice t x lo hi mx) p = lookS n (e.eval x) p) ∧ (∀ n (s : Sl) p, (s.b < n ∨ s.cap < BIG ∨ s.nl = true) → lookS n s.v p = p) ∧ (∀ n s p, lookS n (.string s) p = p) ∧
 (∀ n e x p, lookH n e (.nilCheck x) p = p) ∧ (∀ n e f a b p, lookH n e (.makeFunc f a b) p = p) ∧ (∀ n e t x p, lookH n e (.makeInterface t x) p = p) ∧ (∀ n e a ts p, lookH n e (.call ⟨.builtin .min, a, ts⟩) p = p) :=
 ⟨fun n e t x lo hi mx p => (by
  unfold lookH lookS
  simp only [isEff, readsAt]
  refine propext ⟨fun h => ⟨fun a k c hr hc => h.1 trivial a.block (by rw [hr]; simp only [Nat.not_lt.2 hc, if_false]), h.2⟩, fun h => ⟨fun _ b hb => ?_, h.2⟩⟩
  cases hx : e.eval x with
  | slice o k c => cases o with
    | none => rw [hx] at hb; cases hb
    | some a =>
      rw [hx] at hb
      simp only at hb
      split at hb
      ·cases hb
      ·cases hb; exact h.1 _ _ _ hx (by omega)
  | _ => rw [hx] at hb; cases hb),
  fun n s p h => (by
   unfold lookS
   refine propext ⟨fun h => h.2, fun hp => ⟨fun a k c hv hc => ?_, hp⟩⟩
   unfold Sl.v at hv
   by_cases h1 : s.nl = true
   ·rw [if_pos h1] at hv; cases hv
   ·rw [if_neg h1] at hv
    cases hv
    show s.b < n
    rcases h with h | h | h
    ·exact h
    ·omega
    ·exact absurd h h1),
  fun n s p => propext ⟨fun h => h.2, fun hp => ⟨fun a k c hv => (by cases hv), hp⟩⟩,
  fun _ _ _ _ => lookH_no rfl, fun _ _ _ _ _ _ => lookH_no rfl, fun _ _ _ _ _ => lookH_no rfl, fun _ _ _ _ _ => lookH_no rfl⟩
end Go.AM
namespace Go.AM
open Go
set_option linter.all false
end Go.AM
namespace Go.AM
open Go
set_option linter.all false
theorem Rising.iff {w : Int} {l : List ByteArray} : Rising w l ↔ ∀ i (h : i + 1 < l.length), slt (sumS l[i] w) (sumS l[i + 1] w) := by
 constructor
 ·intro h i hi; exact h.lt (Nat.lt_succ_self i) hi
 ·intro h
  have : ∀ n, n ≤ l.length → Rising w (l.take n) := by
   intro n
   induction n with
   | zero => intro _; trivial
   | succ n ih =>
     intro hn
     cases n with
     | zero => rw [List.take_succ_eq_append_getElem (by omega)]; trivial
     | succ n => exact (Rising.step (by omega)).2 ⟨ih (by omega), h n (by omega)⟩
  have := this l.length (Nat.le_refl _)
  rwa [List.take_length] at this
theorem Rising.drop {w : Int} {l : List ByteArray} (h : Rising w l) (n : Nat) : Rising w (l.drop n) := by
 rw [Rising.iff]
 intro i hi
 rw [List.length_drop] at hi
 rw [List.getElem_drop, List.getElem_drop]
 exact h.lt (by omega) (by omega)
end Go.AM
namespace Go.AM
open Go
set_option linter.all false
def arrSl2 (b o n sz l : Nat) : Option Nat → Option Value
 | some h => if l ≤ h ∧ h ≤ n ∧ n < BIG then some (Sl.mk false b (if n = l then o else o + l * sz) (h - l) (n - l)).v else none
 | none => none
def arrSl (b o : Nat) (hi : Option Value) : Option (Nat × TypeId × Nat) → Option Nat → Option Value
 | some (n, _, sz), some l => arrSl2 b o n sz l (aBound hi n)
 | _, _ => none
theorem aSlice_arr (P : Program) (A : AH) (t : TypeId) (b o : Nat) (lo hi : Option Value) : aSlice P A t (.pointer (some ⟨b, o, none⟩)) lo hi none = arrSl b o hi (tArray P t) (aBound lo 0) := by
 unfold aSlice arrSl
 cases tArray P t with
 | none => rfl
 | some q =>
   obtain ⟨n, e, sz⟩ := q
   cases aBound lo 0 with
   | none => rfl
   | some l =>
     simp only
     unfold arrSl2
     cases aBound hi n with
     | none => rfl
     | some h =>
       simp only
       by_cases c : l ≤ h ∧ h ≤ n ∧ n < BIG
       ·rw [if_pos c, if_pos c]
        by_cases hn : n = l
        ·rw [if_pos hn, if_pos hn]; simp only [Sl.v, Bool.false_eq_true, if_false]
        ·rw [if_neg hn, if_neg hn, ptr_add]; simp only [Sl.v, Bool.false_eq_true, if_false]
       ·rw [if_neg c, if_neg c]
def Pow (g : Nat) (A : AH) : Prop := ∃ c e, A.get g = .cells c e ∧ g < A.size ∧ 20 ≤ c.length ∧ ∀ i, i < 20 → c[i]? = some (.int .u64 (10 ^ i : Nat))
theorem Pow.ext {g : Nat} {A A' : AH} (h : Pow g A) (hE : Ext A A') : Pow g A' := by
 obtain ⟨c, e, h1, h2, h3, h4⟩ := h
 exact ⟨c, e, (hE.get _ h2).trans h1, Nat.lt_of_lt_of_le h2 hE.size, h3, h4⟩
theorem dec2 {n : Nat} (h1 : 10 ≤ n) (h2 : n < 100) : decS n = ⟨#[UInt8.ofNat (48 + n / 10), UInt8.ofNat (48 + n % 10)]⟩ := by
 rw [decS_ge (by omega), decS_lt (by omega)]; rfl
theorem dec3 {n : Nat} (h1 : 100 ≤ n) (h2 : n < 1000) : decS n = ⟨#[UInt8.ofNat (48 + n / 100), UInt8.ofNat (48 + n / 10 % 10), UInt8.ofNat (48 + n % 10)]⟩ := by
 rw [decS_ge (by omega), decS_ge (by omega), decS_lt (by omega)]
 have e : n / 10 / 10 = n / 100 := by omega
 rw [e]; rfl
theorem dec4 {n : Nat} (h1 : 1000 ≤ n) (h2 : n < 10000) : decS n = ⟨#[UInt8.ofNat (48 + n / 1000), UInt8.ofNat (48 + n / 100 % 10), UInt8.ofNat (48 + n / 10 % 10), UInt8.ofNat (48 + n % 10)]⟩ := by
 rw [decS_ge (by omega), decS_ge (by omega), decS_ge (by omega), decS_lt (by omega)]
 have e : n / 10 / 10 / 10 = n / 1000 := by omega
 have e2 : n / 10 / 10 = n / 100 := by omega
 rw [e, e2]; rfl
def smL : ByteArray := ⟨#[48, 48, 48, 49, 48, 50, 48, 51, 48, 52, 48, 53, 48, 54, 48, 55, 48, 56, 48, 57, 49, 48, 49, 49, 49, 50, 49, 51, 49, 52, 49, 53, 49, 54, 49, 55, 49, 56, 49, 57, 50, 48, 50, 49, 50, 50, 50, 51, 50, 52, 50, 53, 50, 54, 50, 55, 50, 56, 50, 57, 51, 48, 51, 49, 51, 50, 51, 51, 51, 52, 51, 53, 51, 54, 51, 55, 51, 56, 51, 57, 52, 48, 52, 49, 52, 50, 52, 51, 52, 52, 52, 53, 52, 54, 52, 55, 52, 56, 52, 57, 53, 48, 53, 49, 53, 50, 53, 51, 53, 52, 53, 53, 53, 54, 53, 55, 53, 56, 53, 57, 54, 48, 54, 49, 54, 50, 54, 51, 54, 52, 54, 53, 54, 54, 54, 55, 54, 56, 54, 57, 55, 48, 55, 49, 55, 50, 55, 51, 55, 52, 55, 53, 55, 54, 55, 55, 55, 56, 55, 57, 56, 48, 56, 49, 56, 50, 56, 51, 56, 52, 56, 53, 56, 54, 56, 55, 56, 56, 56, 57, 57, 48, 57, 49, 57, 50, 57, 51, 57, 52, 57, 53, 57, 54, 57, 55, 57, 56, 57, 57]⟩
set_option maxRecDepth 20000 in
theorem smL_all : ∀ k, k < 100 → bget smL (2 * k) = UInt8.ofNat (48 + k / 10) ∧ bget smL (2 * k + 1) = UInt8.ofNat (48 + k % 10) ∧ smL.extract (2 * k) (2 * k + 2) = ⟨#[UInt8.ofNat (48 + k / 10), UInt8.ofNat (48 + k % 10)]⟩ := by decide
def dgL : ByteArray := ⟨#[48, 49, 50, 51, 52, 53, 54, 55, 56, 57, 97, 98, 99, 100, 101, 102, 103, 104, 105, 106, 107, 108, 109, 110, 111, 112, 113, 114, 115, 116, 117, 118, 119, 120, 121, 122]⟩
theorem dgL_all : ∀ k, k < 10 → dgL.extract k (k + 1) = ⟨#[UInt8.ofNat (48 + k)]⟩ := by decide
end Go.AM
namespace Go.AM
open Go
set_option linter.all false
def Stk (lo : Nat) (A : AH) (s : Sl) (l : List ByteArray) : Prop :=
 (s = Sl.nil ∧ l = []) ∨ (s.nl = false ∧ lo ≤ s.b ∧ s.b < A.size ∧ s.o = 0 ∧ s.len = l.length ∧ ∃ c, A.get s.b = .cells c 1 ∧ l.length ≤ c.length ∧ c.take l.length = l.map Value.string ∧ (s.cap = BIG ∨ (s.len ≤ s.cap ∧ s.cap ≤ c.length ∧ s.cap < BIG)) ∧ ∀ t ∈ l, t.size < BIG)
theorem reps_map {A : AH} : ∀ {l : List ByteArray}, (∀ t ∈ l, t.size < BIG) → Reps A l (l.map Value.string) []
 | [], _ => .nil
 | t :: l, h => Reps.cons (F := []) (G := []) (show [Value.string t] = [Value.string t] ∧ ([] : List Nat) = [] ∧ t.size < BIG from ⟨rfl, rfl, h t (by simp)⟩) (reps_map fun x hx => h x (by simp [hx]))
section
variable {P : Program} {ro lo : Nat} {A A' : AH} {s : Sl} {l : List ByteArray} {t : TypeId}
theorem Stk.nil : Stk lo A Sl.nil [] := .inl ⟨rfl, rfl⟩
theorem Stk.len (h : Stk lo A s l) : s.len = l.length := by
 rcases h with ⟨rfl, rfl⟩ | ⟨_, _, _, _, h, _⟩
 ·rfl
 ·exact h
theorem Stk.slr (h : Stk lo A s l) : ∃ F, SlR A s l F ∧ ∀ b ∈ F, b = s.b ∧ lo ≤ b ∧ b < A.size ∧ s.nl = false := by
 rcases h with ⟨rfl, rfl⟩ | ⟨h1, h2, h3, h4, h5, c, h6, h7, h8, h9, h10⟩
 ·exact ⟨[], .nil rfl rfl rfl, by simp⟩
 ·refine ⟨[s.b], .inB ⟨h1, h3, h5, ?_, c, l.map Value.string, [], h6, ?_, ?_, reps_map h10, rfl⟩, fun b hb => ?_⟩
  ·rcases h9 with h | ⟨h, _, k⟩
   ·exact .inl h
   ·exact .inr ⟨h, k⟩
  ·show s.o + s.len * 1 ≤ c.length; omega
  ·show (c.drop s.o).take (s.len * 1) = _; rw [h4, h5, Nat.mul_one, List.drop_zero, h8]
  ·rw [List.mem_singleton.1 hb]; exact ⟨rfl, h2, h3, h1⟩
theorem Stk.frame (h : Stk lo A s l) (hz : A.size ≤ A'.size) (hg : s.nl = false → A'.get s.b = A.get s.b) : Stk lo A' s l := by
 rcases h with h | ⟨h1, h2, h3, h4, h5, c, h6, h7⟩
 ·exact .inl h
 ·exact .inr ⟨h1, h2, by omega, h4, h5, c, (hg h1).trans h6, h7⟩
theorem Stk.ext (h : Stk lo A s l) (hE : Ext A A') : Stk lo A' s l := by
 rcases h with h | ⟨h1, h2, h3, h4, h5, c, h6, h7⟩
 ·exact .inl h
 ·exact .inr ⟨h1, h2, Nat.lt_of_lt_of_le h3 hE.size, h4, h5, c, (hE.get _ h3).trans h6, h7⟩
theorem Stk.app (h : Stk lo A s l) (hlo : lo ≤ A.size) (hc : s.cap = s.len) (ht : tElemSize P t = some 1) {x : Value} {xs : List ByteArray} {vs : List Value} (hsrc : aSource A 1 x = some (xs.length, vs)) (hx : Reps A xs vs []) (hlim : l.length + xs.length < 4294967296) :
 ∃ s' A', aAppend P ro A t s.v x = some (s'.v, A') ∧ Stk lo A' s' (l ++ xs) ∧ Ext A A' ∧ (s'.nl = s.nl ∧ s'.b = s.b ∨ A.size ≤ s'.b) := by
 have hlen := h.len
 have hcb : s.cap < BIG := by rw [hc, hlen]; unfold BIG; omega
 by_cases h0 : xs = []
 ·subst h0
  have hv : s.v = .slice (if s.nl then none else some ⟨s.b, s.o, none⟩) s.len s.cap := rfl
  refine ⟨s, A, ?_, by simpa using h, Ext.refl A, .inl ⟨rfl, rfl⟩⟩
  rcases h with ⟨rfl, rfl⟩ | ⟨h1, _⟩
  ·have hl2 : (0 : Nat) < LIM := by decide
   simp only [Sl.v_nil, aAppend, ht, hsrc, List.length_nil, hl2, Nat.add_zero, if_true, ne_eq, not_true_eq_false, or_self, if_false]
  ·have hl2 : s.len + 0 < LIM := by rw [hlen]; exact hlim
   simp only [Sl.v, h1, aAppend, ht, hsrc, List.length_nil, hl2, if_true, hcb, hc, Nat.le_refl, and_self, Bool.false_eq_true, if_false]
   rw [← hc]; simp only [hcb, if_true]
 ·obtain ⟨F, hF, hFb⟩ := h.slr
  obtain ⟨s', A', h1, h2, h3, h4⟩ := app_full (ro := ro) hF hc hcb ht hsrc hx (by cases xs with | nil => exact absurd rfl h0 | cons a r => simp) hlim
  refine ⟨s', A', h1, ?_, h3, ?_⟩
  ·have hne : l ++ xs ≠ [] := by simp [h0]
   generalize l ++ xs = k at h2 hne
   cases h2 with
   | nil => exact absurd rfl hne
   | empty b o => exact absurd rfl hne
   | @own b n c cs l G k1 k2 k3 k4 k5 k6 k7 =>
     have hcs : ∀ {k : List ByteArray} {cs : List Value}, Reps A' k cs [] → cs = k.map Value.string ∧ ∀ t ∈ k, t.size < BIG := by
      intro k
      induction k with
      | nil => intro cs h; cases h; exact ⟨rfl, by simp⟩
      | cons a k ih =>
        intro cs h
        generalize hG : ([] : List Nat) = G at h
        cases h with
        | @cons _ _ c cs2 F1 G1 hx h =>
          obtain ⟨rfl, rfl, hz⟩ := hx
          simp only [List.nil_append] at hG
          subst hG
          obtain ⟨e1, e2⟩ := ih h
          subst e1
          exact ⟨rfl, fun t ht => by rcases List.mem_cons.1 ht with rfl | ht; exact hz; exact e2 t ht⟩
     obtain ⟨e1, e2⟩ := hcs k7
     subst e1
     have hll : (k.map Value.string).length = k.length := List.length_map _
     have hlob : lo ≤ b := Nat.le_trans hlo k1
     refine .inr ⟨rfl, hlob, k2, rfl, k4, _, k6, by rw [hll]; exact Nat.le_refl _, by rw [← hll, List.take_length], ?_, e2⟩
     rcases k5 with k5 | ⟨k5, k5'⟩
     ·exact .inl k5
     ·exact .inr ⟨by simp; omega, by rw [hll]; simp; omega, by simp; omega⟩
  ·have hne : l ++ xs ≠ [] := by simp [h0]
   exact .inr (h2.lt hne).2.1
end
section
variable {P : Program} {ro : Nat} {X : FuncId → List Value → AH → ARes → AH → Prop}
end
theorem nofoot_TOp {A : AH} {x : TOp} {cs F} (h : Dat.rep A x cs F) : F = [] := by
 obtain ⟨_, _, _, _, _, rfl, ⟨_, rfl, _⟩, _, _, _, _, _, rfl, ⟨_, rfl⟩, _, _, _, _, _, rfl, ⟨_, rfl⟩, _, rfl⟩ := h
 rfl
theorem Tab.extx {g p : Nat} {A A' : AH} (h : Tab g A) (hX : ExtX [p] A A') {c7 : List Value} (hp : A.get p = .cells c7 7) : Tab g A' := by
 obtain ⟨s, F, h1, h2, h3⟩ := h
 have hgp : g ≠ p := by rintro rfl; rw [h1] at hp; cases hp
 refine ⟨s, F, (hX.get g h2 (by simpa using hgp)).trans h1, Nat.lt_of_lt_of_le h2 hX.size, h3.extx hX fun b hb => ?_⟩
 have hbp : b ≠ p := by
  rintro rfl
  cases h3 with
  | nil _ _ hF => subst hF; cases hb
  | empty _ _ _ _ hF => subst hF; cases hb
  | inB h =>
    obtain ⟨_, _, _, _, c, cs, G, h5, _, _, h8, rfl⟩ := h
    have hG : G = [] := h8.nofoot nofoot_TOp
    subst hG
    rw [List.mem_singleton.1 hb] at hp
    rw [h5] at hp
    have : (4 : Nat) = 7 := by injection hp
    omega
 simpa using hbp
theorem Pow.extx {g p : Nat} {A A' : AH} (h : Pow g A) (hX : ExtX [p] A A') {c7 : List Value} {e7 : Nat} (hp : A.get p = .cells c7 e7) (hl : c7.length < 20) : Pow g A' := by
 obtain ⟨c, e, h1, h2, h3, h4⟩ := h
 have hgp : g ≠ p := by rintro rfl; rw [h1] at hp; cases hp; omega
 exact ⟨c, e, (hX.get g h2 (by simpa using hgp)).trans h1, Nat.lt_of_lt_of_le h2 hX.size, h3, h4⟩
end Go.AM
namespace Go.AM
open Go
set_option linter.all false
section
variable {P : Program} {ro lo : Nat} {A A' : AH} {s : Sl} {l : List ByteArray} {t : TypeId}
theorem setCells_one (c : List Value) (n : Nat) (v : Value) (h : n < c.length) : (setCells c n [v]).length = c.length ∧ (setCells c n [v]).take (n + 1) = c.take n ++ [v] := by
 show (c.set n v).length = _ ∧ (c.set n v).take (n + 1) = _
 refine ⟨List.length_set, ?_⟩
 rw [List.take_add_one, List.take_set_of_le (Nat.le_refl n), List.getElem?_set_self h]
 rfl
theorem Stk.push (h : Stk lo A s l) (hro : ro ≤ lo) (hlo : lo ≤ A.size) (ht : tElemSize P t = some 1) {x : Value} {v : ByteArray} (hsrc : aSource A 1 x = some (1, [.string v])) (hv : v.size < BIG) (hlim : l.length + 1 < 4294967296) :
 ∃ s' A', aAppend P ro A t s.v x = some (s'.v, A') ∧ Stk lo A' s' (l ++ [v]) ∧ A.size ≤ A'.size ∧ (∀ b, b < A.size → (s.nl = true ∨ b ≠ s.b) → A'.get b = A.get b) ∧ s'.nl = false ∧ (s'.b = s.b ∧ s.nl = false ∨ A.size ≤ s'.b) := by
 have hL : l.length + 1 < LIM := hlim
 have hmem : (∀ t ∈ l, t.size < BIG) → ∀ t ∈ l ++ [v], t.size < BIG := fun hl t ht => by
  rcases List.mem_append.1 ht with h | h
  ·exact hl t h
  ·rw [List.mem_singleton.1 h]; exact hv
 have hll : (l ++ [v]).length = l.length + 1 := by simp
 have hmap : (l ++ [v]).map Value.string = l.map Value.string ++ [.string v] := by simp
 have own : ∀ (A1 : AH), A1.size = A.size → (∀ t ∈ l, t.size < BIG) → Stk lo (A1.new (.cells (l.map Value.string ++ [.string v]) 1)) ⟨false, A.size, 0, l.length + 1, BIG⟩ (l ++ [v]) := fun A1 hz hl =>
  .inr ⟨rfl, hlo, by show A.size < A1.size + 1; omega, rfl, hll.symm, _, by show (A1.new _).get A.size = _; rw [← hz]; exact AH.gNs _ _, by rw [hll]; simp, by rw [hmap, hll]; exact List.take_of_length_le (by simp), .inl rfl, hmem hl⟩
 rcases h with ⟨rfl, rfl⟩ | ⟨h1, h2, h3, h4, h5, c, h6, h7, h8, h9, h10⟩
 ·refine ⟨⟨false, A.size, 0, 1, BIG⟩, A.new (.cells [.string v] 1), ?_, own A rfl (by simp), by simp only [AH.zN]; omega, fun b hb _ => AH.gNo (by omega), rfl, .inr (Nat.le_refl _)⟩
  have hl3 : 0 + 1 < LIM := by simpa using hL
  simp only [Sl.v_nil, aAppend, appE_str hsrc (by simp), ht, hsrc, hl3, if_true, ne_eq, not_true_eq_false, or_self, if_false, Nat.one_ne_zero]
  rfl
 ·have hL2 : s.len + 1 < LIM := by rw [h5]; exact hL
  have hold : aRow A ⟨s.b, 0, none⟩ (l.length * 1) = some (l.map Value.string) := by
   rw [aRow_eq, h6]
   simp only [rowK, List.drop_zero, Nat.mul_one, h8]
   simp [h7]
  have hfresh : ∀ b, b < A.size → (s.nl = true ∨ b ≠ s.b) → (A.new (.cells (l.map Value.string ++ [.string v]) 1)).get b = A.get b := fun b hb _ => AH.gNo (by omega)
  rcases h9 with h9 | ⟨h9, h9', h9''⟩
  ·refine ⟨⟨false, A.size, 0, l.length + 1, BIG⟩, (A.put s.b .dead).new (.cells (l.map Value.string ++ [.string v]) 1), ?_, own (A.put s.b .dead) rfl h10, by simp only [AH.zN, AH.zP]; omega, fun b hb hn => ?_, rfl, .inr (Nat.le_refl _)⟩
   ·have hro2 : ro ≤ s.b := Nat.le_trans hro h2
    simp only [Sl.v, h1, h4, h5, aAppend, ht, hsrc, hL, if_true, h9, Nat.lt_irrefl, if_false, Bool.false_eq_true, hro2, and_self, hold, h6, true_or]
   ·rw [AH.gNo (by simp only [AH.zP]; omega), AH.gPo (by rcases hn with h | h; rw [h1] at h; cases h; exact h)]
  ·by_cases hc : l.length + 1 ≤ s.cap
   ·obtain ⟨g1, g2⟩ := setCells_one c l.length (.string v) (by omega)
    refine ⟨⟨false, s.b, 0, l.length + 1, s.cap⟩, A.put s.b (.cells (setCells c l.length [.string v]) 1), ?_, .inr ⟨rfl, h2, h3, rfl, hll.symm, _, AH.gPs _ _ _, by rw [hll, g1]; omega, by rw [hll, g2, h8, hmap], .inr ⟨by simp; omega, by rw [g1]; exact h9', h9''⟩, hmem h10⟩, Nat.le_refl _, fun b hb hn => AH.gPo (by rcases hn with h | h; rw [h1] at h; cases h; exact h), rfl, .inl ⟨rfl, h1⟩⟩
    have hro2 : ro ≤ s.b := Nat.le_trans hro h2
    have hcl : l.length + 1 ≤ c.length := by omega
    simp only [Sl.v, h1, h4, h5, aAppend, ht, hsrc, hL, if_true, h9'', if_false, Bool.false_eq_true, Nat.one_ne_zero, false_and, hc, h6, hro2, Nat.zero_add, Nat.mul_one, hcl, and_self]
   ·by_cases h0 : l.length = 0
    ·have hl0 : l = [] := by simpa using h0
     subst hl0
     refine ⟨⟨false, A.size, 0, 1, BIG⟩, A.new (.cells [.string v] 1), ?_, own A rfl (by simp), by simp only [AH.zN]; omega, fun b hb _ => AH.gNo (by omega), rfl, .inr (Nat.le_refl _)⟩
     simp only [List.length_nil] at h5 hc hL
     simp only [Sl.v, h1, h4, h5, aAppend, ht, hsrc, hL, if_true, h9'', if_false, Bool.false_eq_true, Nat.one_ne_zero, false_and, hc]
    ·refine ⟨⟨false, A.size, 0, l.length + 1, BIG⟩, A.new (.cells (l.map Value.string ++ [.string v]) 1), ?_, own A rfl h10, by simp only [AH.zN]; omega, hfresh, rfl, .inr (Nat.le_refl _)⟩
     simp only [Sl.v, h1, h4, h5, aAppend, ht, hsrc, hL, if_true, h9'', if_false, Bool.false_eq_true, Nat.one_ne_zero, false_and, hc, h0, hold]
end
end Go.AM
namespace Go.AM
open Go
set_option linter.all false
end Go.AM
namespace Go.AM
open Go
set_option linter.all false
def formIll (s : ByteArray) : Prop := (s.size : Int) < 2 ∨ ((bget s 0).toNat : Int) < 48 ∨ (53 : Int) < (bget s 0).toNat ∨ ((bget s 1).toNat : Int) ≠ 58 ∨ (2000 : Int) < s.size - 2
instance (s : ByteArray) : Decidable (formIll s) := by unfold formIll; infer_instance
end Go.AM
namespace Go.AM
open Go
set_option linter.all false
section
variable {P : Program} {ro : Nat} {X : FuncId → List Value → AH → ARes → AH → Prop}
end
def PlainOk (x : TIns) (m : Mach) (nx : Nat) : Prop :=
 insR x m = if ∀ s ∈ plainR x (topA m.st) (topB m.st), s.size ≤ 2000 then .go ⟨nx, restR x m.st ++ plainR x (topA m.st) (topB m.st), m.steps + 1, m.looks⟩ else .fin 2 (decS m.pc) (m.steps + 1)
theorem PlainOk.plain {x : TIns} {m : Mach} (h : 1 ≤ x.1 ∧ x.1 ≤ 9) : PlainOk x m (m.pc + 1) := by
 unfold PlainOk insR
 rw [if_neg (by omega), if_neg (by omega), if_neg (by omega), if_neg (by omega), if_neg (by omega)]
theorem Stk.lo {lo lo' : Nat} {A : AH} {s : Sl} {l : List ByteArray} (h : Stk lo A s l) (hl : lo' ≤ lo) : Stk lo' A s l := by
 rcases h with h | ⟨h1, h2, h3⟩
 ·exact .inl h
 ·exact .inr ⟨h1, Nat.le_trans hl h2, h3⟩
end Go.AM
namespace Go.AM
open Go Go.RowKit
set_option linter.unusedVariables false
theorem SimG.ints {ng : Nat} {W : World} {m : Emb} {A : AH} (h : SimG ng W m A) {P : Program} {n : String} {g N : Nat} {t e : TypeId} {k : IntKind} {ns : List Int} {cs : Array Value} {fuel : Nat} {p : List MemPlace}
 (ht : P.underlying t = some (.array N e)) (he : P.underlying e = some (.int k)) (hce : P.cellsOf e = 1) (hct : P.cellsOf t = N) (hg : g < ng) (hn : P.globalNamed n = some g) (hv : W.var? P n = some cs)
 (htr : DataW.trod (fun _ => ()) P W 0 (fun _ => true) false fuel t cs.toList = some (.agg (ns.map fun x => .lit (.int k x)), p)) :
 SimG ng W m (A.put g (.cells (ns.map (Value.int k)) 1)) := by
 obtain ⟨hS, hs, hek⟩ := h
 obtain ⟨xs, mm, rfl, hx, hlen, hxl, hall⟩ := DataW.trod_array ht htr
 have hmap : (ns.map fun x => (DataW.lit (.int k x) : DataW Unit)) = xs.map (·.1) := by
  have := congrArg Prod.fst hx
  simp only at this
  injection this
 have hnl : ns.length = N := by have := congrArg List.length hmap; simpa [hxl] using this
 have hcl : cs.toList.length = N := by rw [hlen, hct]
 have hcs : cs.toList = ns.map (Value.int k) := by
  refine List.ext_getElem (by rw [List.length_map, hcl, hnl]) fun i h1 h2 => ?_
  have hi : i < N := by omega
  have h3 := hall i hi
  rw [hce, Nat.mul_one, List.getElem?_eq_getElem (by omega)] at h3
  obtain ⟨x, e1, e2, _⟩ := DataW.trod_int he h3
  have e3 : cs.toList[i] = .int k x := by
   have := congrArg (·[0]?) e1
   simp only [List.getElem?_take, List.getElem?_drop] at this
   have h5 : cs.toList[i]? = some (.int k x) := by simpa using this
   rw [List.getElem?_eq_getElem h1] at h5
   exact Option.some.inj h5
  have e4 : ns[i]'(by omega) = x := by
   have := congrArg (·[i]?) hmap
   simp only [List.getElem?_map] at this
   rw [List.getElem?_eq_getElem (by omega), List.getElem?_eq_getElem (by omega), e2] at this
   simpa using this
  rw [e3, List.getElem_map, e4]
 obtain ⟨dg, _, _⟩ := hS.glob g hg
 have hrow : ∃ el fz, W.heap[g]? = some (.cells cs el fz) := by
  unfold World.var? at hv
  rw [hn] at hv
  simp only [Option.bind_some] at hv
  split at hv
  ·cases hv; exact ⟨_, _, ‹_›⟩
  ·cases hv
 obtain ⟨el, fz, hrow⟩ := hrow
 obtain ⟨e1, k1⟩ := hek g hg
 rw [hrow] at k1
 refine ⟨hS.setGlob hg hrow k1 e1 (by rw [hcs]; exact VRels.map _ _ _ fun x _ => .int k x) (fun v hv => ?_), hs, hek⟩
 obtain ⟨x, _, rfl⟩ := List.mem_map.1 hv
 rfl
theorem Pow.put {g : Nat} {A : AH} (hg : g < A.size) : Pow g (A.put g (.cells (((List.range 20).map fun i => ((10 ^ i : Nat) : Int)).map (Value.int .u64)) 1)) :=
 ⟨_, _, AH.gPs _ _ _, hg, by simp, fun i hi => by simp [hi]⟩
def TabPow (g p : Nat) (A : AH) : Prop := Tab g A ∧ Pow p A
theorem TabPow.ext {g p : Nat} {A A' : AH} (h : TabPow g p A) (hE : Ext A A') : TabPow g p A' := ⟨h.1.ext hE, h.2.ext hE⟩
end Go.AM
