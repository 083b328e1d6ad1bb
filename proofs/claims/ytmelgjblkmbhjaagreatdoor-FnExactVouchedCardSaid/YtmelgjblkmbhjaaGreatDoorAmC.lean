/- The abstract machine: code reckoned step by step, by equations. It stops at a call, at a loop, at a test that is not known. -/
import Derived.Test.YtmelgjblkmbhjaaGreatDoorAmB
namespace Go.AM
open Go
def aPanic (e : Env) : Op → Option Value
  | .panic x => match e.eval x with
    | .iface t v => some (.iface t v)
    | _ => none
  | _ => none
/-- What is owed behind an operation of number i of a region: nothing, but where the region draws its order. -/
def Owed (ops : Array Oper) (D : Option (Nat → Prop)) (i : Nat) (op : Op) (e : Env) (A A' : AH) : Prop :=
  match D with
  | none => True
  | some S => Held ops (some S) i op e A A'
abbrev Post := AExit → Env → AH → Prop
abbrev Rest := Nat → Env → AH → Prop
/-- What follows a call. -/
def RunK (ops : Array Oper) (D : Option (Nat → Prop)) (o : Oper) (i : Nat) (e : Env) (A : AH) (Q : Post) (rest : Rest) : ARes → AH → Prop
  | .ret v, A1 => Owed ops D i o.op e A A1 ∧ rest (i + 1) (e.put o.dst v) A1
  | .pan v, A1 => (D.isSome = true → allWait ops i = true) ∧ Q (.pan v) e A1
def RunO (ops : Array Oper) (D : Option (Nat → Prop)) (o : Oper) (rest : Rest) (i : Nat) (e : Env) (A : AH) : Option (Value × AH) → Prop
  | some (v, A1) => Owed ops D i o.op e A A1 ∧ rest (i + 1) (e.put o.dst v) A1
  | none => False
def RunP (D : Option (Nat → Prop)) (Q : Post) (e : Env) (A : AH) (K : Option (Value × AH) → Prop) (r : Option (Value × AH)) : Option Value → Prop
  | some v => D = none ∧ Q (.pan v) e A
  | none => K r
def RunT (P : Program) (ro : Nat) (X : FuncId → List Value → AH → ARes → AH → Prop) (A : AH) (K : ARes → AH → Prop) (N : Option Value → Prop) (p : Option Value) :
    Option (FuncId × List Value) → Prop
  | some (f, args) => ACalls P ro X f args A K
  | none => N p
/-- One operation. -/
def RunOp (P : Program) (ro : Nat) (X : FuncId → List Value → AH → ARes → AH → Prop) (ops : Array Oper) (D : Option (Nat → Prop)) (Q : Post) (o : Oper) (rest : Rest) (i : Nat) (e : Env) (A : AH) (op : Op) : Prop :=
  RunT P ro X A (RunK ops D o i e A Q rest) (RunP D Q e A (RunO ops D o rest i e A) (aOp P ro A.size op e A)) (aPanic e op) (aTarget e op)
def RunW (rest : Rest) (o : Oper) (i : Nat) (e : Env) (A : AH) (N : Op → Prop) : Bool → Prop
  | true => N o.op
  | false => rest (i + 1) (e.put o.dst undef) A
def RunL (P : Program) (ro : Nat) (X : FuncId → List Value → AH → ARes → AH → Prop) (ops : Array Oper) (D : Option (Nat → Prop)) (Q : Post) : List Oper → Rest
  | [], _, e, A => Q .normal e A
  | o :: os, i, e, A =>
    RunW (RunL P ro X ops D Q os) o i e A (RunOp P ro X ops D Q o (RunL P ro X ops D Q os) i e A) (aWanted ops o e)
def CondB (f g : Env → AH → Prop) (e : Env) (A : AH) : Bool → Prop
  | true => f e A
  | false => g e A
def CondV (f g : Env → AH → Prop) (e : Env) (A : AH) : Value → Prop
  | .bool t => CondB f g e A t
  | _ => False
def RunC (P : Program) (ro : Nat) (X : FuncId → List Value → AH → ARes → AH → Prop) : Code → Post → Env → AH → Prop
  | .skip, Q, e, A => Q .normal e A
  | .seq a b, Q, e, A => RunC P ro X a (thenQ (RunC P ro X b Q) Q) e A
  | .cond c a b, Q, e, A => CondV (RunC P ro X a Q) (RunC P ro X b Q) e A (e.eval c)
  | .block id a, Q, e, A => RunC P ro X a (blockQ id Q) e A
  | .exit id, Q, e, A => Q (.exit id) e A
  | .ret, Q, e, A => Q .ret e A
  | .region _ ops false, Q, e, A => RunL P ro X ops none Q ops.toList 0 e A
  | c, Q, e, A => Wp P ro X c e A Q
section
variable {P : Program} {ro : Nat} {X : FuncId → List Value → AH → ARes → AH → Prop} {Q : Post}
theorem CondB.split {f g : Env → AH → Prop} {e : Env} {A : AH} {t : Bool} (h : t = true → f e A) (k : t = false → g e A) : CondB f g e A t := by
  cases t
  · exact k rfl
  · exact h rfl
theorem RunL.sound {ops : Array Oper} {D : Option (Nat → Prop)} : ∀ (os : List Oper) (i : Nat) (e : Env) (A : AH), os = ops.toList.drop i → RunL P ro X ops D Q os i e A →
    WpOps P ro X ops D (List.range' i os.length) e A Q := by
  intro os
  induction os with
  | nil => intro i e A _ h; exact WpOps.nil h
  | cons o os ih =>
    intro i e A hos h
    have ho : ops[i]? = some o := by
      have := congrArg (·[0]?) hos
      simpa using this.symm
    have hos' : os = ops.toList.drop (i + 1) := by
      have := congrArg (List.drop 1) hos
      simpa [List.drop_drop, Nat.add_comm] using this
    rw [List.length_cons, List.range'_succ]
    simp only [RunL] at h
    cases hw : aWanted ops o e with
    | false =>
      rw [hw] at h
      simp only [RunW] at h
      obtain ⟨x, e', A', hb2, hq2⟩ := ih _ _ _ hos' h
      exact ⟨x, e', A', .pass ho hw hb2, hq2⟩
    | true =>
      rw [hw] at h
      simp only [RunW, RunOp] at h
      cases ht : aTarget e o.op with
      | some fa =>
        obtain ⟨f, args⟩ := fa
        rw [ht] at h
        obtain ⟨r, A1, hb, hq⟩ := h
        cases r with
        | ret v =>
          simp only [RunK] at hq
          obtain ⟨hd, hq⟩ := hq
          obtain ⟨x, e', A', hb2, hq2⟩ := ih _ _ _ hos' hq
          refine ⟨x, e', A', .call ho hw ht hb ?_ hb2, hq2⟩
          cases D with
          | none => intro _ h; cases h
          | some S => exact hd
        | pan v => exact ⟨_, _, _, .callp ho hw ht hb hq.1, hq.2⟩
      | none =>
        rw [ht] at h
        simp only [RunT] at h
        cases hp : aPanic e o.op with
        | some v =>
          rw [hp] at h
          obtain ⟨rfl, hq⟩ := h
          cases hop : o.op <;> simp only [hop, aPanic] at hp <;> try (cases hp; done)
          rename_i x
          split at hp
          · cases hp; exact ⟨_, _, _, .panic ho hw hop ‹_›, hq⟩
          · cases hp
        | none =>
          rw [hp] at h
          simp only [RunP] at h
          cases hv : aOp P ro A.size o.op e A with
          | none => rw [hv] at h; exact h.elim
          | some va =>
            obtain ⟨v, A1⟩ := va
            rw [hv] at h
            obtain ⟨hd, hq⟩ := h
            obtain ⟨x, e', A', hb2, hq2⟩ := ih _ _ _ hos' hq
            refine ⟨x, e', A', .op ho hw hv ?_ hb2, hq2⟩
            cases D with
            | none => intro _ h; cases h
            | some S => exact hd
theorem Wp.run {id : Nat} {ops : Array Oper} {e : Env} {A : AH} (h : RunL P ro X ops none Q ops.toList 0 e A) : Wp P ro X (.region id ops false) e A Q := by
  have := RunL.sound ops.toList 0 e A (by simp) h
  refine Wp.region rfl ?_
  simpa [List.range_eq_range'] using this
theorem Wp.runD {id : Nat} {ops : Array Oper} {e : Env} {A : AH} (S : Nat → Prop) (hk : drawOk ops = true) (h : RunL P ro X ops (some S) Q ops.toList 0 e A) : Wp P ro X (.region id ops true) e A Q := by
  have := RunL.sound ops.toList 0 e A (by simp) h
  refine Wp.drawn S rfl hk ?_
  simpa [List.range_eq_range'] using this
theorem RunC.sound : ∀ (c : Code) (Q : Post) (e : Env) (A : AH), RunC P ro X c Q e A → Wp P ro X c e A Q := by
  intro c
  induction c with
  | skip => intro Q e A h; exact Wp.skip h
  | region id ops d =>
    intro Q e A h
    cases d with
    | false => exact Wp.run h
    | true => exact h
  | seq a b iha ihb =>
    intro Q e A h
    refine Wp.seq ((iha _ _ _ h).mono fun x e' A' hq => ?_)
    cases x with
    | normal => exact ihb _ _ _ hq
    | exit id => exact hq
    | ret => exact hq
    | pan v => exact hq
  | cond c a b iha ihb =>
    intro Q e A h
    simp only [RunC] at h
    cases hc : e.eval c <;> rw [hc] at h <;> try (exact h.elim)
    rename_i t
    refine Wp.cond hc ?_
    cases t with
    | true => exact iha _ _ _ h
    | false => exact ihb _ _ _ h
  | block id a ih => intro Q e A h; exact Wp.block (ih _ _ _ h)
  | exit id => intro Q e A h; exact Wp.exit h
  | ret => intro Q e A h; exact Wp.ret h
  | loop a => intro Q e A h; exact h
  | rangeFunc => intro Q e A h; exact h
  | scope => intro Q e A h; exact h
  | label => intro Q e A h; exact h
  | goto => intro Q e A h; exact h
  | refuse => intro Q e A h; exact h
theorem ACalls.enter {f : FuncId} {args : List Value} {fn : Func} {c : Code} {A : AH} {R : ARes → AH → Prop} (hf : P.funcs[f]? = some fn) (hb : fn.body = some c)
    (hd : (dstsOk fn.ntmps P.globals.size c && decide (args.length ≤ fn.ntmps) && !(fn.name == "runtime.NumGoroutine")) = true) (h : RunC P ro X c (funcQ P fn R) (Env.enter args) A) : ACalls P ro X f args A R := by
  simp only [Bool.and_eq_true, decide_eq_true_eq, Bool.not_eq_true'] at hd
  exact ACalls.func hf hb hd.2 hd.1.1 hd.1.2 (RunC.sound _ _ _ _ h)
theorem Wp.loopC {a : Code} {e : Env} {A : AH} (I : Nat → Env → AH → Prop) (n : Nat) (h0 : I n e A)
    (h : ∀ n e A, I n e A → RunC P ro X a (thenQ (fun e' A' => ∃ k, k < n ∧ I k e' A') Q) e A) : Wp P ro X (.loop a) e A Q :=
  Wp.loop I n h0 fun n e A hi => RunC.sound _ _ _ _ (h n e A hi)
end
end Go.AM
