/- The abstract machine in use: regions that draw their order and whose effects nobody may see early; blocks, rows, slices, data. -/
import Derived.Test.YtmelgjblkmbhjaaGreatDoorAmE
namespace Go.AM
open Go
/-! ### Regions that draw their order -/
def isCallV : Op → Bool
  | .call c => match c.callee with | .value _ => true | _ => false
  | _ => false
def isPanic : Op → Bool
  | .panic _ => true
  | _ => false
/-- The order may be taken for the text's; an effect that is free of a look is one of those in the list. -/
def drawFree (ops : Array Oper) (fl : List Nat) : Bool :=
  drawOk ops && (List.range ops.size).all fun i => !isPanic (opAt ops i) && (!isEff (opAt ops i) || !freeReads ops i || fl.elem i)
/-- All that stands behind a call waits for it. -/
def callsWait (ops : Array Oper) : Bool := (List.range ops.size).all fun i => !isCallV (opAt ops i) || allWait ops i
def restX (A : AH) (rest : Rest) : Rest := fun i e A1 => (∀ b, b < A.size → A1.get b = A.get b) ∧ rest i e A1
def restF (fl : List Nat) (i : Nat) (A : AH) (rest : Rest) : Rest := if fl.elem i then restX A rest else rest
/-- The operations of such a region; behind those in the list all blocks must be as they were. -/
def RunG (P : Program) (ro : Nat) (X : FuncId → List Value → AH → ARes → AH → Prop) (ops : Array Oper) (fl : List Nat) (Q : Post) : List Oper → Rest
  | [], _, e, A => Q .normal e A
  | o :: os, i, e, A =>
    RunW (RunG P ro X ops fl Q os) o i e A (RunOp P ro X ops none Q o (restF fl i A (RunG P ro X ops fl Q os)) i e A) (aWanted ops o e)
section
variable {P : Program} {ro : Nat} {X : FuncId → List Value → AH → ARes → AH → Prop} {Q : Post}
theorem RunG.sound {ops : Array Oper} {fl : List Nat} (hk : drawFree ops fl = true) (hp : callsWait ops = true ∨ ∀ v e A, ¬ Q (.pan v) e A) : ∀ (os : List Oper) (i : Nat) (e : Env) (A : AH), os = ops.toList.drop i → RunG P ro X ops fl Q os i e A →
    WpOps P ro X ops (some fun _ => True) (List.range' i os.length) e A Q := by
  intro os
  induction os with
  | nil => intro i e A _ h; exact WpOps.nil h
  | cons o os ih =>
    intro i e A hos h
    have ho : ops[i]? = some o := by
      have := congrArg (·[0]?) hos
      simpa using this.symm
    have hos' : os = ops.toList.drop (i + 1) := by
      have := congrArg (List.drop 1) hos
      simpa [List.drop_drop, Nat.add_comm] using this
    have hi : i < ops.size := by
      rcases Nat.lt_or_ge i ops.size with h' | h'
      · exact h'
      · rw [Array.getElem?_eq_none h'] at ho; cases ho
    have hat : opAt ops i = o.op := by simp [opAt, ho]
    have hk2 := hk
    unfold drawFree at hk2
    rw [Bool.and_eq_true] at hk2
    have hkk := List.all_eq_true.1 hk2.2 i (List.mem_range.2 hi)
    rw [hat, Bool.and_eq_true] at hkk
    have held : ∀ (e e' : Env) (A A1 : AH) (rest : Rest), restF fl i A rest (i + 1) e' A1 → Held ops (some fun _ => True) i o.op e A A1 ∧ rest (i + 1) e' A1 := by
      intro e e' A A1 rest hr
      unfold restF at hr
      by_cases hf : fl.elem i = true
      · rw [if_pos hf] at hr
        refine ⟨fun S hS => ?_, hr.2⟩
        cases hS
        exact ⟨fun _ _ _ => trivial, fun _ _ b hb _ => hr.1 b hb⟩
      · rw [if_neg hf] at hr
        refine ⟨fun S hS => ?_, hr⟩
        cases hS
        refine ⟨fun _ _ _ => trivial, fun h1 h2 => ?_⟩
        rw [h1, h2] at hkk
        simp only [Bool.not_true, Bool.false_or] at hkk
        exact absurd hkk.2 hf
    rw [List.length_cons, List.range'_succ]
    simp only [RunG] at h
    cases hw : aWanted ops o e with
    | false =>
      rw [hw] at h
      simp only [RunW] at h
      obtain ⟨x, e', A', hb2, hq2⟩ := ih _ _ _ hos' h
      exact ⟨x, e', A', .pass ho hw hb2, hq2⟩
    | true =>
      rw [hw] at h
      simp only [RunW, RunOp] at h
      cases ht : aTarget e o.op with
      | some fa =>
        obtain ⟨f, args⟩ := fa
        rw [ht] at h
        obtain ⟨r, A1, hb, hq⟩ := h
        cases r with
        | ret v =>
          simp only [RunK] at hq
          obtain ⟨hd, hq⟩ := held e _ _ _ _ hq.2
          obtain ⟨x, e', A', hb2, hq2⟩ := ih _ _ _ hos' hq
          exact ⟨x, e', A', .call ho hw ht hb hd hb2, hq2⟩
        | pan v =>
          rcases hp with hp | hp
          · refine ⟨_, _, _, .callp ho hw ht hb (fun _ => ?_), hq.2⟩
            have := List.all_eq_true.1 hp i (List.mem_range.2 hi)
            rw [hat] at this
            have hc : isCallV o.op = true := by
              cases hop : o.op <;> rw [hop] at ht <;> simp only [aTarget] at ht <;> try (cases ht; done)
              split at ht
              · rename_i hc; simp [isCallV, hc]
              · cases ht
            simpa [hc] using this
          · exact absurd hq.2 (hp _ _ _)
      | none =>
        rw [ht] at h
        simp only [RunT] at h
        cases hpn : aPanic e o.op with
        | some v =>
          cases hop : o.op <;> simp only [hop, aPanic] at hpn <;> try (cases hpn; done)
          rw [hop] at hkk
          simp [isPanic] at hkk
        | none =>
          rw [hpn] at h
          simp only [RunP] at h
          cases hv : aOp P ro A.size o.op e A with
          | none => rw [hv] at h; exact h.elim
          | some va =>
            obtain ⟨v, A1⟩ := va
            rw [hv] at h
            obtain ⟨hd, hq⟩ := held e _ _ _ _ h.2
            obtain ⟨x, e', A', hb2, hq2⟩ := ih _ _ _ hos' hq
            exact ⟨x, e', A', .op ho hw hv hd hb2, hq2⟩
theorem Wp.runG {id : Nat} {ops : Array Oper} {e : Env} {A : AH} (fl : List Nat) (hk : drawFree ops fl = true) (hp : callsWait ops = true ∨ ∀ v e A, ¬ Q (.pan v) e A) (h : RunG P ro X ops fl Q ops.toList 0 e A) :
    Wp P ro X (.region id ops true) e A Q := by
  have := RunG.sound hk hp ops.toList 0 e A (by simp) h
  have hk2 := hk
  unfold drawFree at hk2
  rw [Bool.and_eq_true] at hk2
  refine Wp.drawn (fun _ => True) rfl hk2.1 ?_
  simpa [List.range_eq_range'] using this
end
theorem amG (P : Program) (ro : Nat) (X : FuncId → List Value → AH → ARes → AH → Prop) :
    (∀ ops fl Q i e A, RunG P ro X ops fl Q [] i e A = Q .normal e A) ∧
    (∀ ops fl Q o os i e A, RunG P ro X ops fl Q (o :: os) i e A = RunW (RunG P ro X ops fl Q os) o i e A (RunOp P ro X ops none Q o (restF fl i A (RunG P ro X ops fl Q os)) i e A) (aWanted ops o e)) ∧
    (∀ fl i A rest j e A1, restF fl i A rest j e A1 = if fl.elem i then (∀ b, b < A.size → A1.get b = A.get b) ∧ rest j e A1 else rest j e A1) :=
  ⟨fun _ _ _ _ _ _ => rfl, fun _ _ _ _ _ _ _ _ => rfl, fun fl i A rest j e A1 => by unfold restF; split <;> rfl⟩
/-! ### Blocks -/
theorem AH.size_new (A : AH) (o : AObj) : (A.new o).size = A.size + 1 := rfl
theorem AH.size_put (A : AH) (b : Nat) (o : AObj) : (A.put b o).size = A.size := rfl
theorem AH.get_new_self (A : AH) (o : AObj) : (A.new o).get A.size = o := if_pos rfl
theorem AH.get_new_other {A : AH} {o : AObj} {b : Nat} (h : b ≠ A.size) : (A.new o).get b = A.get b := if_neg h
theorem AH.get_put_self (A : AH) (b : Nat) (o : AObj) : (A.put b o).get b = o := if_pos rfl
theorem AH.get_put_other {A : AH} {o : AObj} {b b' : Nat} (h : b' ≠ b) : (A.put b o).get b' = A.get b' := if_neg h
/-- All that was there is as it was. -/
structure Ext (A A' : AH) : Prop where
  size : A.size ≤ A'.size
  get : ∀ b, b < A.size → A'.get b = A.get b
theorem Ext.refl (A : AH) : Ext A A := ⟨Nat.le_refl _, fun _ _ => rfl⟩
theorem Ext.trans {A A' A'' : AH} (h : Ext A A') (k : Ext A' A'') : Ext A A'' :=
  ⟨Nat.le_trans h.size k.size, fun b hb => (k.get b (Nat.lt_of_lt_of_le hb h.size)).trans (h.get b hb)⟩
theorem Ext.new (A : AH) (o : AObj) : Ext A (A.new o) := ⟨Nat.le_succ _, fun b hb => AH.get_new_other (by omega)⟩
theorem Ext.put {A A' : AH} (h : Ext A A') {b : Nat} (hb : A.size ≤ b) (o : AObj) : Ext A (A'.put b o) :=
  ⟨h.size, fun b' hb' => (AH.get_put_other (by omega)).trans (h.get b' hb')⟩
/-! ### Data -/
/-- A slice's value. -/
structure Sl where
  nl : Bool
  b : Nat
  o : Nat
  len : Nat
  cap : Nat
def Sl.v (s : Sl) : Value := .slice (if s.nl then none else some ⟨s.b, s.o, none⟩) s.len s.cap
def Sl.nil : Sl := ⟨true, 0, 0, 0, 0⟩
theorem Sl.v_nil : Sl.nil.v = .slice none 0 0 := rfl
theorem Sl.v_mk (b o n c : Nat) : (Sl.mk false b o n c).v = .slice (some ⟨b, o, none⟩) n c := rfl
class Dat (α : Type) where
  w : Nat
  rep : AH → α → List Value → List Nat → Prop
  len : ∀ {A x cs F}, rep A x cs F → cs.length = w
  frame : ∀ {A A' : AH} {x cs F}, rep A x cs F → (∀ b, b ∈ F → A'.get b = A.get b ∧ b < A'.size) → rep A' x cs F
  bound : ∀ {A x cs F}, rep A x cs F → ∀ b, b ∈ F → b < A.size
inductive Reps {α : Type} [Dat α] (A : AH) : List α → List Value → List Nat → Prop
  | nil : Reps A [] [] []
  | cons {x : α} {l : List α} {c cs : List Value} {F G : List Nat} (h : Dat.rep A x c F) (k : Reps A l cs G) : Reps A (x :: l) (c ++ cs) (F ++ G)
section
variable {α : Type} [Dat α]
theorem Reps.length {A : AH} {l : List α} {cs : List Value} {F : List Nat} (h : Reps A l cs F) : cs.length = l.length * Dat.w α := by
  induction h with
  | nil => simp
  | cons h k ih => rw [List.length_append, ih, Dat.len h, List.length_cons, Nat.succ_mul, Nat.add_comm]
theorem Reps.frame {A A' : AH} {l : List α} {cs : List Value} {F : List Nat} (h : Reps A l cs F) (hF : ∀ b, b ∈ F → A'.get b = A.get b ∧ b < A'.size) : Reps A' l cs F := by
  induction h with
  | nil => exact .nil
  | cons h k ih => exact .cons (Dat.frame h fun b hb => hF b (List.mem_append_left _ hb)) (ih fun b hb => hF b (List.mem_append_right _ hb))
theorem Reps.bound {A : AH} {l : List α} {cs : List Value} {F : List Nat} (h : Reps A l cs F) : ∀ b, b ∈ F → b < A.size := by
  induction h with
  | nil => intro b hb; cases hb
  | cons h k ih => intro b hb; rcases List.mem_append.1 hb with hb | hb; exact Dat.bound h b hb; exact ih b hb
theorem Reps.append {A : AH} {l l' : List α} {cs cs' : List Value} {F F' : List Nat} (h : Reps A l cs F) (k : Reps A l' cs' F') : Reps A (l ++ l') (cs ++ cs') (F ++ F') := by
  induction h with
  | nil => exact k
  | cons h _ ih => rw [List.cons_append, List.append_assoc, List.append_assoc]; exact .cons h ih
theorem Reps.one {A : AH} {x : α} {c : List Value} {F : List Nat} (h : Dat.rep A x c F) : Reps A [x] c F := by
  have := Reps.cons h (.nil (A := A) (α := α))
  simpa using this
theorem Reps.get {A : AH} {l : List α} {cs : List Value} {F : List Nat} (h : Reps A l cs F) : ∀ (i : Nat) (hi : i < l.length), ∃ Fi, Dat.rep A l[i] ((cs.drop (i * Dat.w α)).take (Dat.w α)) Fi ∧ ∀ b, b ∈ Fi → b ∈ F := by
  induction h with
  | nil => intro i hi; simp at hi
  | cons h k ih =>
    rename_i x l c cs F G
    intro i hi
    have hl := Dat.len h
    cases i with
    | zero => exact ⟨F, by simpa [List.take_append_of_le_length (Nat.le_of_eq hl.symm), ← hl] using h, fun b hb => List.mem_append_left _ hb⟩
    | succ i =>
      obtain ⟨Fi, h1, h2⟩ := ih i (by simpa using hi)
      refine ⟨Fi, ?_, fun b hb => List.mem_append_right _ (h2 b hb)⟩
      rw [List.drop_append, List.drop_eq_nil_of_le (by rw [hl, Nat.succ_mul]; omega), List.nil_append, hl, show (i + 1) * Dat.w α - Dat.w α = i * Dat.w α by rw [Nat.succ_mul]; omega]
      simpa using h1
/-- A slice whose elements lie in a block. -/
structure InB (A : AH) (s : Sl) (l : List α) (F : List Nat) : Prop where
  nl : s.nl = false
  lt : s.b < A.size
  len : s.len = l.length
  cap : s.cap = BIG ∨ (s.len ≤ s.cap ∧ s.cap < BIG)
  row : ∃ c cs G, A.get s.b = .cells c (Dat.w α) ∧ s.o + s.len * Dat.w α ≤ c.length ∧ (c.drop s.o).take (s.len * Dat.w α) = cs ∧ Reps A l cs G ∧ F = s.b :: G
/-- A slice. -/
inductive SlR (A : AH) (s : Sl) (l : List α) (F : List Nat) : Prop
  | nil (h : s = .nil) (hl : l = []) (hF : F = [])
  | empty (h : s.nl = false) (hn : s.len = 0) (hc : s.cap < BIG) (hl : l = []) (hF : F = [])
  | inB (h : InB A s l F)
end
instance : Dat Int where
  w := 1
  rep _ x cs F := cs = [.int .i64 x] ∧ F = []
  len h := by rw [h.1]; rfl
  frame h _ := h
  bound h b hb := by rw [h.2] at hb; cases hb
instance : Dat Bool where
  w := 1
  rep _ x cs F := cs = [.bool x] ∧ F = []
  len h := by rw [h.1]; rfl
  frame h _ := h
  bound h b hb := by rw [h.2] at hb; cases hb
instance : Dat UInt8 where
  w := 1
  rep _ x cs F := cs = [.int .u8 x.toNat] ∧ F = []
  len h := by rw [h.1]; rfl
  frame h _ := h
  bound h b hb := by rw [h.2] at hb; cases hb
instance : Dat ByteArray where
  w := 1
  rep _ x cs F := cs = [.string x] ∧ F = [] ∧ x.size < BIG
  len h := by rw [h.1]; rfl
  frame h _ := h
  bound h b hb := by rw [h.2.1] at hb; cases hb
instance {α β : Type} [Dat α] [Dat β] : Dat (α × β) where
  w := Dat.w α + Dat.w β
  rep A x cs F := ∃ c d G H, cs = c ++ d ∧ F = G ++ H ∧ Dat.rep A x.1 c G ∧ Dat.rep A x.2 d H
  len h := by obtain ⟨c, d, G, H, rfl, rfl, h1, h2⟩ := h; rw [List.length_append, Dat.len h1, Dat.len h2]
  frame h hF := by
    obtain ⟨c, d, G, H, rfl, rfl, h1, h2⟩ := h
    exact ⟨c, d, G, H, rfl, rfl, Dat.frame h1 fun b hb => hF b (List.mem_append_left _ hb), Dat.frame h2 fun b hb => hF b (List.mem_append_right _ hb)⟩
  bound h b hb := by
    obtain ⟨c, d, G, H, rfl, rfl, h1, h2⟩ := h
    rcases List.mem_append.1 hb with hb | hb
    · exact Dat.bound h1 b hb
    · exact Dat.bound h2 b hb
section
variable {α : Type} [Dat α]
theorem InB.frame {A A' : AH} {s : Sl} {l : List α} {F : List Nat} (h : InB A s l F) (hF : ∀ b, b ∈ F → A'.get b = A.get b ∧ b < A'.size) : InB A' s l F := by
  obtain ⟨h1, h2, h3, h4, c, cs, G, h5, h6, h7, h8, rfl⟩ := h
  exact ⟨h1, (hF _ (by simp)).2, h3, h4, c, cs, G, (hF _ (by simp)).1.trans h5, h6, h7, h8.frame fun b hb => hF b (List.mem_cons_of_mem _ hb), rfl⟩
theorem SlR.frame {A A' : AH} {s : Sl} {l : List α} {F : List Nat} (h : SlR A s l F) (hF : ∀ b, b ∈ F → A'.get b = A.get b ∧ b < A'.size) : SlR A' s l F := by
  cases h with
  | nil h hl hf => exact .nil h hl hf
  | empty h hn hc hl hf => exact .empty h hn hc hl hf
  | inB h => exact .inB (h.frame hF)
theorem SlR.bound {A : AH} {s : Sl} {l : List α} {F : List Nat} (h : SlR A s l F) : ∀ b, b ∈ F → b < A.size := by
  intro b hb
  cases h with
  | nil _ _ hf => rw [hf] at hb; cases hb
  | empty _ _ _ _ hf => rw [hf] at hb; cases hb
  | inB h =>
    obtain ⟨h1, h2, h3, h4, c, cs, G, h5, h6, h7, h8, rfl⟩ := h
    rcases List.mem_cons.1 hb with rfl | hb
    · exact h2
    · exact h8.bound b hb
theorem SlR.ext {A A' : AH} {s : Sl} {l : List α} {F : List Nat} (h : SlR A s l F) (hE : Ext A A') : SlR A' s l F :=
  h.frame fun b hb => ⟨hE.get b (h.bound b hb), Nat.lt_of_lt_of_le (h.bound b hb) hE.size⟩
theorem SlR.len {A : AH} {s : Sl} {l : List α} {F : List Nat} (h : SlR A s l F) : s.len = l.length := by
  cases h with
  | nil h hl _ => rw [h, hl]; rfl
  | empty _ hn _ hl _ => rw [hn, hl]; rfl
  | inB h => exact h.len
/-- An element: its address, its cells. -/
theorem SlR.at {A : AH} {s : Sl} {l : List α} {F : List Nat} (h : SlR A s l F) {i : Nat} (hi : i < l.length) : s.nl = false ∧ s.b < A.size ∧ ∃ c Fi, A.get s.b = .cells c (Dat.w α) ∧ s.o + s.len * Dat.w α ≤ c.length ∧
    s.o + i * Dat.w α + Dat.w α ≤ c.length ∧ Dat.rep A l[i] ((c.drop (s.o + i * Dat.w α)).take (Dat.w α)) Fi ∧ s.b ∈ F ∧ ∀ b, b ∈ Fi → b ∈ F := by
  cases h with
  | nil _ hl _ => subst hl; simp at hi
  | empty _ _ _ hl _ => subst hl; simp at hi
  | inB h =>
    obtain ⟨h1, h2, h3, h4, c, cs, G, h5, h6, h7, h8, rfl⟩ := h
    obtain ⟨Fi, g1, g2⟩ := h8.get i hi
    have hle : i * Dat.w α + Dat.w α ≤ s.len * Dat.w α := by rw [← Nat.succ_mul, h3]; exact Nat.mul_le_mul_right _ hi
    refine ⟨h1, h2, c, Fi, h5, h6, by omega, ?_, by simp, fun b hb => List.mem_cons_of_mem _ (g2 b hb)⟩
    rw [← h7, List.drop_take, List.take_take, List.drop_drop] at g1
    rw [Nat.min_eq_left (by omega)] at g1
    exact g1
theorem Sl.v_len (P : Program) (A : AH) (s : Sl) (t : TypeId) : aLen P A t s.v = if tKind P t = some .slice then some (.int .i64 s.len) else none := by
  unfold Sl.v aLen
  cases tKind P t with
  | none => simp
  | some k => cases k <;> simp
theorem Sl.v_addr (P : Program) (t : TypeId) (s : Sl) (k : IntKind) (i : Nat) (h1 : i < s.len) :
    aIndexAddr P t s.v (.int k i) = if s.nl = false then (tElemSize P t).bind fun w => some (.pointer (some ⟨s.b, s.o + i * w, none⟩)) else none := by
  unfold Sl.v aIndexAddr
  cases hn : s.nl with
  | true => simp
  | false => cases tElemSize P t <;> simp [h1, Addr.add]
theorem aRow_get {A : AH} {b o n e : Nat} {c : List Value} (h : A.get b = .cells c e) (hl : o + n ≤ c.length) : aRow A ⟨b, o, none⟩ n = some ((c.drop o).take n) := by
  unfold aRow
  simp [h, hl]
theorem aCell_get {A : AH} {b o e : Nat} {c : List Value} (h : A.get b = .cells c e) : aCell A ⟨b, o, none⟩ = c[o]? := by
  unfold aCell
  simp [h]
theorem aCell_row {A : AH} {b o n j : Nat} {cs : List Value} (h : aRow A ⟨b, o, none⟩ n = some cs) (hj : j < n) : aCell A ⟨b, o + j, none⟩ = cs[j]? := by
  unfold aRow at h
  unfold aCell
  simp only at h ⊢
  cases hg : A.get b with
  | dead => rw [hg] at h; cases h
  | map es => rw [hg] at h; cases h
  | cells c e =>
    rw [hg] at h
    simp only at h ⊢
    split at h
    · cases h; rw [List.getElem?_take, if_pos hj, List.getElem?_drop]
    · cases h
/-- An element of a slice: its row. -/
theorem SlR.row {A : AH} {s : Sl} {l : List α} {F : List Nat} (h : SlR A s l F) {i : Nat} (hi : i < l.length) : s.nl = false ∧ s.b < A.size ∧ s.b ∈ F ∧ i < s.len ∧
    ∃ cs Fi, aRow A ⟨s.b, s.o + i * Dat.w α, none⟩ (Dat.w α) = some cs ∧ Dat.rep A l[i] cs Fi ∧ ∀ b, b ∈ Fi → b ∈ F := by
  obtain ⟨h1, h2, c, Fi, h3, _, h5, h6, h7, h8⟩ := h.at hi
  exact ⟨h1, h2, h7, by rw [h.len]; exact hi, _, Fi, aRow_get h3 h5, h6, h8⟩
theorem SlR.row1 {A : AH} {s : Sl} {l : List α} {F : List Nat} (h : SlR A s l F) (hw : Dat.w α = 1) {i : Nat} (hi : i < l.length) : s.nl = false ∧ s.b < A.size ∧ s.b ∈ F ∧ i < s.len ∧
    ∃ v Fi, aCell A ⟨s.b, s.o + i, none⟩ = some v ∧ Dat.rep A l[i] [v] Fi ∧ ∀ b, b ∈ Fi → b ∈ F := by
  obtain ⟨h1, h2, h3, h4, cs, Fi, h5, h6, h7⟩ := h.row hi
  have hl := Dat.len h6
  rw [hw] at hl h5
  match cs, hl with
  | [v], _ =>
    have := aCell_row h5 (j := 0) (by omega)
    exact ⟨h1, h2, h3, h4, v, Fi, by simpa using this, h6, h7⟩
theorem SlR.str {A : AH} {s : Sl} {l : List ByteArray} {F : List Nat} (h : SlR A s l F) {i : Nat} (hi : i < l.length) : s.nl = false ∧ s.b < A.size ∧ s.b ∈ F ∧ i < s.len ∧
    aCell A ⟨s.b, s.o + i, none⟩ = some (.string l[i]) ∧ l[i].size < BIG := by
  obtain ⟨h1, h2, h3, h4, v, Fi, h5, ⟨h6, _, h8⟩, _⟩ := h.row1 rfl hi
  cases h6
  exact ⟨h1, h2, h3, h4, h5, h8⟩
end
instance {α : Type} [Dat α] : Dat (List α) where
  w := 1
  rep A l cs F := ∃ s : Sl, cs = [s.v] ∧ SlR A s l F
  len h := by obtain ⟨s, rfl, _⟩ := h; rfl
  frame h hF := by obtain ⟨s, rfl, h⟩ := h; exact ⟨s, rfl, h.frame hF⟩
  bound h := by obtain ⟨s, rfl, h⟩ := h; exact h.bound
end Go.AM
