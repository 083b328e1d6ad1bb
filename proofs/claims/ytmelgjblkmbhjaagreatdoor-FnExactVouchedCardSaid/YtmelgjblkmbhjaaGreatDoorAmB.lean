/- The abstract machine's big steps, and the rules by which they are reckoned. -/
import Derived.Test.YtmelgjblkmbhjaaGreatDoorAmA
namespace Go.AM
open Go

inductive AExit where
  | normal | exit (id : Nat) | ret | pan (v : Value)
inductive ARes where
  | ret (v : Value) | pan (v : Value)
inductive Judg where
  | code (c : Code) (e : Env)
  | ops (ops : Array Oper) (D : Option (Nat → Prop)) (l : List Nat) (e : Env)
  | call (f : FuncId) (args : List Value)
inductive Out where
  | code (x : AExit) (e : Env)
  | call (r : ARes)

def aWanted (ops : Array Oper) (o : Oper) (e : Env) : Bool :=
  match o.guard with
  | none => true
  | some (j, want) => match (ops[j]?).bind (·.dst) with
    | some d => match e d with
      | .bool b => b == want
      | _ => false
    | none => false
def aResVals (P : Program) (A : AH) (e : Env) : List ResultVar → Option (List Value)
  | [] => some []
  | .tmp t :: r => (aResVals P A e r).map (e t :: ·)
  | .cell a t :: r => match e a with
    | .pointer (some p) => match aLoad P A t p with
      | some v => (aResVals P A e r).map (v :: ·)
      | none => none
    | _ => none
def aTup : List Value → Value
  | [v] => v
  | vs => .tuple vs.toArray
def aResults (P : Program) (A : AH) (e : Env) (fn : Func) : Option Value := (aResVals P A e fn.results.toList).map aTup

/-! ### Static looks at a function's text -/
def opdOk (ng : Nat) : Operand → Bool
  | .tmp _ => true
  | .const v => ground1 v
  | .global g => decide (g < ng)
  | .func _ => true
def dstOk (n ng : Nat) (o : Oper) : Bool := (match o.dst with | some d => decide (d < n) | none => true) && o.op.operands.toList.all (opdOk ng)
/-- Each slot that is written lies in the frame; constants hold no addresses; the variables that are named are there. -/
def dstsOk (n ng : Nat) : Code → Bool
  | .region _ ops _ => ops.toList.all (dstOk n ng)
  | .seq a b => dstsOk n ng a && dstsOk n ng b
  | .cond c a b => opdOk ng c && dstsOk n ng a && dstsOk n ng b
  | .block _ a => dstsOk n ng a
  | .loop a => dstsOk n ng a
  | _ => true
def isEff : Op → Bool
  | .store _ _ _ | .mapUpdate _ _ _ _ => true
  | .call c => match c.callee with
    | .builtin .len | .builtin .min => false
    | _ => true
  | _ => false
def isNew : Op → Bool
  | .alloc _ | .box _ _ | .buildSlice _ _ _ | .makeMap _ _ | .makeSlice _ _ _ | .convert _ _ _ => true
  | _ => false
/-- Whether an operation that has no effect looks at memory. -/
def isRead : Op → Bool
  | .load _ _ | .convert _ _ _ | .lookup _ _ _ _ | .slice _ _ _ _ _ => true
  | .call c => match c.callee with
    | .builtin .len => true
    | _ => false
  | _ => false
/-- The block that such an operation looks at. -/
def readsAt (e : Env) : Op → Option Nat
  | .load _ x => match e.eval x with | .pointer (some a) => some a.block | _ => none
  | .convert _ _ x => match e.eval x with | .slice (some a) n _ => if n = 0 then none else some a.block | _ => none
  | .slice _ x _ _ _ => match e.eval x with | .slice (some a) _ c => if c < BIG then none else some a.block | _ => none
  | .lookup _ m _ _ => match e.eval m with | .map (some r) => some r | _ => none
  | .call c => match c.callee, c.args.toList with
    | .builtin .len, [x] => match e.eval x with | .map (some r) => some r | _ => none
    | _, _ => none
  | _ => none
def bitAt (b : Array Nat) (j i : Nat) : Bool := (b.getD j 0).testBit i
def opAt (ops : Array Oper) (i : Nat) : Op := match ops[i]? with | some o => o.op | none => .move (.tmp 0)
def freeReads (ops : Array Oper) (j : Nat) : Bool :=
  let b := Region.before ops
  (List.range ops.size).any fun i => isRead (opAt ops i) && i != j && !bitAt b j i && !bitAt b i j
def opTmps (ops : Array Oper) (o : Oper) : List Nat :=
  o.dst.toList ++ o.op.operands.toList.filterMap (fun | .tmp t => some t | _ => none) ++
  (match o.guard with | some (g, _) => ((ops[g]?).bind (·.dst)).toList | none => [])
def clash (ops : Array Oper) (x y : Oper) : Bool :=
  (match x.dst with | some d => (opTmps ops y).contains d | none => false) || (match y.dst with | some d => (opTmps ops x).contains d | none => false)
/-- What a region that draws its order must meet so that the text's order may be taken for all. -/
def drawOk (ops : Array Oper) : Bool :=
  let b := Region.before ops
  let n := ops.size
  (List.range n).all fun j => match ops[j]? with
    | none => false
    | some o =>
      o.after.toList.all (fun ed => !Region.binds .any ed || decide (ed.on < j)) &&
      (List.range j).all fun i => match ops[i]? with
        | none => false
        | some o' => bitAt b j i || (!(isEff o.op && (isEff o'.op || isNew o'.op)) && !clash ops o' o)
/-- Every operation behind number j waits for it. -/
def allWait (ops : Array Oper) (j : Nat) : Bool :=
  let b := Region.before ops
  (List.range ops.size).all fun i => decide (i ≤ j) || bitAt b i j

/-- In a region that draws its order: what is looked at lies in S, and what may be looked at sooner or later than the text says is not turned. -/
def Held (ops : Array Oper) (D : Option (Nat → Prop)) (i : Nat) (op : Op) (e : Env) (A A' : AH) : Prop :=
  ∀ S, D = some S → (∀ b, isEff op = false → readsAt e op = some b → S b) ∧ (isEff op = true → freeReads ops i = true → ∀ b, b < A.size → S b → A'.get b = A.get b)

inductive Big (P : Program) (ro : Nat) (X : FuncId → List Value → AH → ARes → AH → Prop) : Judg → AH → Out → AH → Prop
  | skip {e A} : Big P ro X (.code .skip e) A (.code .normal e) A
  | seq {a b e e' A A' o A''} (h : Big P ro X (.code a e) A (.code .normal e') A') (k : Big P ro X (.code b e') A' o A'') : Big P ro X (.code (.seq a b) e) A o A''
  | seqx {a b e e' A A' x} (h : Big P ro X (.code a e) A (.code x e') A') (hx : x ≠ .normal) : Big P ro X (.code (.seq a b) e) A (.code x e') A'
  | cond {c a b e A t o A'} (hc : e.eval c = .bool t) (h : Big P ro X (.code (if t then a else b) e) A o A') : Big P ro X (.code (.cond c a b) e) A o A'
  | block {id a e A e' A'} (h : Big P ro X (.code a e) A (.code (.exit id) e') A') : Big P ro X (.code (.block id a) e) A (.code .normal e') A'
  | blockx {id a e A x e' A'} (h : Big P ro X (.code a e) A (.code x e') A') (hx : x ≠ .exit id) : Big P ro X (.code (.block id a) e) A (.code x e') A'
  | loop {a e A e' A' o A''} (h : Big P ro X (.code a e) A (.code .normal e') A') (k : Big P ro X (.code (.loop a) e') A' o A'') : Big P ro X (.code (.loop a) e) A o A''
  | loopx {a e A x e' A'} (h : Big P ro X (.code a e) A (.code x e') A') (hx : x ≠ .normal) : Big P ro X (.code (.loop a) e) A (.code x e') A'
  | exit {id e A} : Big P ro X (.code (.exit id) e) A (.code (.exit id) e) A
  | ret {e A} : Big P ro X (.code .ret e) A (.code .ret e) A
  | region {id ops e A o A'} (h : Big P ro X (.ops ops none (List.range ops.size) e) A o A') : Big P ro X (.code (.region id ops false) e) A o A'
  | drawn {id ops e A o A'} (S : Nat → Prop) (hk : drawOk ops = true) (h : Big P ro X (.ops ops (some S) (List.range ops.size) e) A o A') :
      Big P ro X (.code (.region id ops true) e) A o A'
  | nil {ops D e A} : Big P ro X (.ops ops D [] e) A (.code .normal e) A
  | pass {ops D i l e A o r A'} (ho : ops[i]? = some o) (hw : aWanted ops o e = false) (k : Big P ro X (.ops ops D l (e.put o.dst undef)) A r A') :
      Big P ro X (.ops ops D (i :: l) e) A r A'
  | op {ops D i l e A o v A1 r A'} (ho : ops[i]? = some o) (hw : aWanted ops o e = true) (hv : aOp P ro A.size o.op e A = some (v, A1)) (hd : Held ops D i o.op e A A1)
      (k : Big P ro X (.ops ops D l (e.put o.dst v)) A1 r A') : Big P ro X (.ops ops D (i :: l) e) A r A'
  | call {ops D i l e A o f args v A1 r A'} (ho : ops[i]? = some o) (hw : aWanted ops o e = true) (ht : aTarget e o.op = some (f, args))
      (hv : Big P ro X (.call f args) A (.call (.ret v)) A1) (hd : Held ops D i o.op e A A1) (k : Big P ro X (.ops ops D l (e.put o.dst v)) A1 r A') :
      Big P ro X (.ops ops D (i :: l) e) A r A'
  | callp {ops D i l e A o f args v A1} (ho : ops[i]? = some o) (hw : aWanted ops o e = true) (ht : aTarget e o.op = some (f, args))
      (hv : Big P ro X (.call f args) A (.call (.pan v)) A1) (hd : D.isSome = true → allWait ops i = true) : Big P ro X (.ops ops D (i :: l) e) A (.code (.pan v) e) A1
  | panic {ops i l e A o x t v} (ho : ops[i]? = some o) (hw : aWanted ops o e = true) (hx : o.op = .panic x) (hv : e.eval x = .iface t v) :
      Big P ro X (.ops ops none (i :: l) e) A (.code (.pan (.iface t v)) e) A
  | func {f args fn c e' x A A' v} (hf : P.funcs[f]? = some fn) (hb : fn.body = some c) (hnm : (fn.name == "runtime.NumGoroutine") = false) (hd : dstsOk fn.ntmps P.globals.size c = true) (ha : args.length ≤ fn.ntmps)
      (h : Big P ro X (.code c (Env.enter args)) A (.code x e') A') (hx : x = .ret ∨ x = .normal) (hr : aResults P A' e' fn = some v) :
      Big P ro X (.call f args) A (.call (.ret v)) A'
  | funcp {f args fn c e' A A' v} (hf : P.funcs[f]? = some fn) (hb : fn.body = some c) (hnm : (fn.name == "runtime.NumGoroutine") = false) (hd : dstsOk fn.ntmps P.globals.size c = true) (ha : args.length ≤ fn.ntmps)
      (h : Big P ro X (.code c (Env.enter args)) A (.code (.pan v) e') A') : Big P ro X (.call f args) A (.call (.pan v)) A'
  | ext {f args A r A'} (h : X f args A r A') : Big P ro X (.call f args) A (.call r) A'

/-! ### The rules -/
section
variable (P : Program) (ro : Nat) (X : FuncId → List Value → AH → ARes → AH → Prop)
def Wp (c : Code) (e : Env) (A : AH) (Q : AExit → Env → AH → Prop) : Prop := ∃ x e' A', Big P ro X (.code c e) A (.code x e') A' ∧ Q x e' A'
def WpOps (ops : Array Oper) (D : Option (Nat → Prop)) (l : List Nat) (e : Env) (A : AH) (Q : AExit → Env → AH → Prop) : Prop :=
  ∃ x e' A', Big P ro X (.ops ops D l e) A (.code x e') A' ∧ Q x e' A'
def ACalls (f : FuncId) (args : List Value) (A : AH) (Q : ARes → AH → Prop) : Prop := ∃ r A', Big P ro X (.call f args) A (.call r) A' ∧ Q r A'
end
section
variable {P : Program} {ro : Nat} {X : FuncId → List Value → AH → ARes → AH → Prop} {e : Env} {A : AH} {Q : AExit → Env → AH → Prop}
theorem ACalls.mono {f : FuncId} {args : List Value} {R R' : ARes → AH → Prop} (h : ACalls P ro X f args A R) (k : ∀ r A', R r A' → R' r A') : ACalls P ro X f args A R' := by
  obtain ⟨r, A', hb, hr⟩ := h
  exact ⟨r, A', hb, k _ _ hr⟩
theorem Wp.mono {c : Code} {Q' : AExit → Env → AH → Prop} (h : Wp P ro X c e A Q) (k : ∀ x e' A', Q x e' A' → Q' x e' A') : Wp P ro X c e A Q' := by
  obtain ⟨x, e', A', hb, hr⟩ := h
  exact ⟨x, e', A', hb, k _ _ _ hr⟩
def thenQ (K : Env → AH → Prop) (Q : AExit → Env → AH → Prop) : AExit → Env → AH → Prop
  | .normal, e, A => K e A
  | x, e, A => Q x e A
def blockQ (id : Nat) (Q : AExit → Env → AH → Prop) : AExit → Env → AH → Prop
  | .exit id', e, A => if id' = id then Q .normal e A else Q (.exit id') e A
  | x, e, A => Q x e A
theorem Wp.skip (h : Q .normal e A) : Wp P ro X .skip e A Q := ⟨_, _, _, .skip, h⟩
theorem Wp.exit {id : Nat} (h : Q (.exit id) e A) : Wp P ro X (.exit id) e A Q := ⟨_, _, _, .exit, h⟩
theorem Wp.ret (h : Q .ret e A) : Wp P ro X .ret e A Q := ⟨_, _, _, .ret, h⟩
theorem Wp.seq {a b : Code} (h : Wp P ro X a e A (thenQ (fun e A => Wp P ro X b e A Q) Q)) : Wp P ro X (.seq a b) e A Q := by
  obtain ⟨x, e', A', hb, hq⟩ := h
  cases x with
  | normal => obtain ⟨x2, e2, A2, hb2, hq2⟩ := hq; exact ⟨x2, e2, A2, .seq hb hb2, hq2⟩
  | exit id => exact ⟨_, _, _, .seqx hb (by simp), hq⟩
  | ret => exact ⟨_, _, _, .seqx hb (by simp), hq⟩
  | pan v => exact ⟨_, _, _, .seqx hb (by simp), hq⟩
theorem Wp.cond {c : Operand} {a b : Code} {t : Bool} (hc : e.eval c = .bool t) (h : Wp P ro X (if t then a else b) e A Q) : Wp P ro X (.cond c a b) e A Q := by
  obtain ⟨x, e', A', hb, hq⟩ := h
  exact ⟨x, e', A', .cond hc hb, hq⟩
theorem Wp.block {id : Nat} {a : Code} (h : Wp P ro X a e A (blockQ id Q)) : Wp P ro X (.block id a) e A Q := by
  obtain ⟨x, e', A', hb, hq⟩ := h
  cases x with
  | normal => exact ⟨_, _, _, .blockx hb (by simp), hq⟩
  | exit id' =>
    by_cases hid : id' = id
    · subst hid; simp only [blockQ, if_true] at hq; exact ⟨_, _, _, .block hb, hq⟩
    · simp only [blockQ, if_neg hid] at hq; exact ⟨_, _, _, .blockx hb (by simpa using hid), hq⟩
  | ret => exact ⟨_, _, _, .blockx hb (by simp), hq⟩
  | pan v => exact ⟨_, _, _, .blockx hb (by simp), hq⟩
theorem Wp.loop1 {a : Code} (h : Wp P ro X a e A (thenQ (fun e A => Wp P ro X (.loop a) e A Q) Q)) : Wp P ro X (.loop a) e A Q := by
  obtain ⟨x, e', A', hb, hq⟩ := h
  cases x with
  | normal => obtain ⟨x2, e2, A2, hb2, hq2⟩ := hq; exact ⟨x2, e2, A2, .loop hb hb2, hq2⟩
  | exit id => exact ⟨_, _, _, .loopx hb (by simp), hq⟩
  | ret => exact ⟨_, _, _, .loopx hb (by simp), hq⟩
  | pan v => exact ⟨_, _, _, .loopx hb (by simp), hq⟩
/-- A loop by what holds ahead of each round, with a measure. -/
theorem Wp.loop {a : Code} (I : Nat → Env → AH → Prop) (n : Nat) (h0 : I n e A)
    (h : ∀ n e A, I n e A → Wp P ro X a e A (thenQ (fun e' A' => ∃ k, k < n ∧ I k e' A') Q)) : Wp P ro X (.loop a) e A Q := by
  induction n using Nat.strongRecOn generalizing e A with
  | _ n ih =>
    refine Wp.loop1 ((h n e A h0).mono fun x e' A' hq => ?_)
    cases x with
    | normal => obtain ⟨k, hk, hi⟩ := hq; exact ih k hk hi
    | exit id => exact hq
    | ret => exact hq
    | pan v => exact hq
theorem Wp.region {id : Nat} {ops : Array Oper} {l : List Nat} (hl : List.range ops.size = l) (h : WpOps P ro X ops none l e A Q) : Wp P ro X (.region id ops false) e A Q := by
  subst hl
  obtain ⟨x, e', A', hb, hq⟩ := h
  exact ⟨x, e', A', .region hb, hq⟩
theorem Wp.drawn {id : Nat} {ops : Array Oper} (S : Nat → Prop) {l : List Nat} (hl : List.range ops.size = l) (hk : drawOk ops = true)
    (h : WpOps P ro X ops (some S) l e A Q) : Wp P ro X (.region id ops true) e A Q := by
  subst hl
  obtain ⟨x, e', A', hb, hq⟩ := h
  exact ⟨x, e', A', .drawn S hk hb, hq⟩
theorem WpOps.nil {ops : Array Oper} {D : Option (Nat → Prop)} (h : Q .normal e A) : WpOps P ro X ops D [] e A Q := ⟨_, _, _, .nil, h⟩
theorem WpOps.pass {ops : Array Oper} {D : Option (Nat → Prop)} {i : Nat} {l : List Nat} {o : Oper} (ho : ops[i]? = some o) (hw : aWanted ops o e = false)
    (h : WpOps P ro X ops D l (e.put o.dst undef) A Q) : WpOps P ro X ops D (i :: l) e A Q := by
  obtain ⟨x, e', A', hb, hq⟩ := h
  exact ⟨x, e', A', .pass ho hw hb, hq⟩
theorem WpOps.op {ops : Array Oper} {i : Nat} {l : List Nat} {o : Oper} {v : Value} {A1 : AH} (ho : ops[i]? = some o) (hw : aWanted ops o e = true)
    (hv : aOp P ro A.size o.op e A = some (v, A1)) (h : WpOps P ro X ops none l (e.put o.dst v) A1 Q) : WpOps P ro X ops none (i :: l) e A Q := by
  obtain ⟨x, e', A', hb, hq⟩ := h
  exact ⟨x, e', A', .op ho hw hv (fun _ h => by cases h) hb, hq⟩
theorem WpOps.opD {ops : Array Oper} {S : Nat → Prop} {i : Nat} {l : List Nat} {o : Oper} {v : Value} {A1 : AH} (ho : ops[i]? = some o) (hw : aWanted ops o e = true)
    (hv : aOp P ro A.size o.op e A = some (v, A1)) (hd : Held ops (some S) i o.op e A A1) (h : WpOps P ro X ops (some S) l (e.put o.dst v) A1 Q) : WpOps P ro X ops (some S) (i :: l) e A Q := by
  obtain ⟨x, e', A', hb, hq⟩ := h
  exact ⟨x, e', A', .op ho hw hv hd hb, hq⟩
def callQ (K : Value → AH → Prop) (E : Value → AH → Prop) : ARes → AH → Prop
  | .ret v, A => K v A
  | .pan v, A => E v A
theorem WpOps.call {ops : Array Oper} {i : Nat} {l : List Nat} {o : Oper} {f : FuncId} {args : List Value} (ho : ops[i]? = some o) (hw : aWanted ops o e = true)
    (ht : aTarget e o.op = some (f, args)) (h : ACalls P ro X f args A (callQ (fun v A1 => WpOps P ro X ops none l (e.put o.dst v) A1 Q) (fun v A1 => Q (.pan v) e A1))) :
    WpOps P ro X ops none (i :: l) e A Q := by
  obtain ⟨r, A1, hb, hq⟩ := h
  cases r with
  | ret v => obtain ⟨x, e', A', hb2, hq2⟩ := hq; exact ⟨x, e', A', .call ho hw ht hb (fun _ h => by cases h) hb2, hq2⟩
  | pan v => exact ⟨_, _, _, .callp ho hw ht hb (fun h => by cases h), hq⟩
theorem WpOps.callD {ops : Array Oper} {S : Nat → Prop} {i : Nat} {l : List Nat} {o : Oper} {f : FuncId} {args : List Value} (ho : ops[i]? = some o) (hw : aWanted ops o e = true)
    (ht : aTarget e o.op = some (f, args))
    (h : ACalls P ro X f args A (callQ (fun v A1 => Held ops (some S) i o.op e A A1 ∧ WpOps P ro X ops (some S) l (e.put o.dst v) A1 Q) (fun v A1 => allWait ops i = true ∧ Q (.pan v) e A1))) :
    WpOps P ro X ops (some S) (i :: l) e A Q := by
  obtain ⟨r, A1, hb, hq⟩ := h
  cases r with
  | ret v => obtain ⟨hd, x, e', A', hb2, hq2⟩ := hq; exact ⟨x, e', A', .call ho hw ht hb hd hb2, hq2⟩
  | pan v => exact ⟨_, _, _, .callp ho hw ht hb (fun _ => hq.1), hq.2⟩
theorem WpOps.panic {ops : Array Oper} {i : Nat} {l : List Nat} {o : Oper} {x : Operand} {t : TypeId} {v : Value} (ho : ops[i]? = some o) (hw : aWanted ops o e = true)
    (hx : o.op = .panic x) (hv : e.eval x = .iface t v) (h : Q (.pan (.iface t v)) e A) : WpOps P ro X ops none (i :: l) e A Q :=
  ⟨_, _, _, .panic ho hw hx hv, h⟩
def funcQ (P : Program) (fn : Func) (R : ARes → AH → Prop) : AExit → Env → AH → Prop
  | .normal, e, A => ∃ v, aResults P A e fn = some v ∧ R (.ret v) A
  | .ret, e, A => ∃ v, aResults P A e fn = some v ∧ R (.ret v) A
  | .pan v, _, A => R (.pan v) A
  | .exit _, _, _ => False
theorem ACalls.func {f : FuncId} {args : List Value} {fn : Func} {c : Code} {R : ARes → AH → Prop} (hf : P.funcs[f]? = some fn) (hb : fn.body = some c) (hnm : (fn.name == "runtime.NumGoroutine") = false)
    (hd : dstsOk fn.ntmps P.globals.size c = true) (ha : args.length ≤ fn.ntmps) (h : Wp P ro X c (Env.enter args) A (funcQ P fn R)) : ACalls P ro X f args A R := by
  obtain ⟨x, e', A', hb', hq⟩ := h
  cases x with
  | normal => obtain ⟨v, hv, hr⟩ := hq; exact ⟨_, _, .func hf hb hnm hd ha hb' (.inr rfl) hv, hr⟩
  | ret => obtain ⟨v, hv, hr⟩ := hq; exact ⟨_, _, .func hf hb hnm hd ha hb' (.inl rfl) hv, hr⟩
  | pan v => exact ⟨_, _, .funcp hf hb hnm hd ha hb', hq⟩
  | exit id => exact hq.elim
end
end Go.AM
