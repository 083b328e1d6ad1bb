/- The abstract machine: the equations by which code is reckoned, gathered into one statement ('am'). -/
import Derived.Test.YtmelgjblkmbhjaaGreatDoorAmC
namespace Go.AM
open Go
section
variable {P : Program} {ro : Nat} {X : FuncId → List Value → AH → ARes → AH → Prop} {ops : Array Oper} {D : Option (Nat → Prop)} {Q : Post} {o : Oper} {rest : Rest} {i : Nat} {e : Env} {A : AH}
/-- A value is at hand: on. -/
def Put (ops : Array Oper) (D : Option (Nat → Prop)) (o : Oper) (rest : Rest) (i : Nat) (e : Env) (A : AH) (v : Value) (A1 : AH) : Prop :=
  Owed ops D i o.op e A A1 ∧ rest (i + 1) (e.put o.dst v) A1
def PutV (ops : Array Oper) (D : Option (Nat → Prop)) (o : Oper) (rest : Rest) (i : Nat) (e : Env) (A : AH) : Option Value → Prop
  | some v => Put ops D o rest i e A v A
  | none => False
def PutA (ops : Array Oper) (D : Option (Nat → Prop)) (o : Oper) (rest : Rest) (i : Nat) (e : Env) (A : AH) : Option AH → Prop
  | some A1 => Put ops D o rest i e A undef A1
  | none => False
def PutB (ops : Array Oper) (D : Option (Nat → Prop)) (o : Oper) (rest : Rest) (i : Nat) (e : Env) (A : AH) : Option (Value × AH) → Prop
  | some (v, A1) => Put ops D o rest i e A v A1
  | none => False
/-- Where the order is not drawn nothing is owed. -/
theorem Put_none {v : Value} {A1 : AH} : Put ops none o rest i e A v A1 = rest (i + 1) (e.put o.dst v) A1 := by simp [Put, Owed]
theorem RunO_eq (r : Option (Value × AH)) : RunO ops D o rest i e A r = PutB ops D o rest i e A r := by
  cases r <;> rfl
theorem RunO_map {α : Type} (f : α → Value × AH) (r : Option α) : RunO ops D o rest i e A (r.map f) = match r with | some x => Put ops D o rest i e A (f x).1 (f x).2 | none => False := by
  cases r <;> rfl
def PickV (x y : Value) (K : Value → Prop) : Value → Prop
  | .bool t => K (if t then x else y)
  | _ => False
def aLoadK (A : AH) (a : Addr) : Option Bool → Option Nat → Option Value
  | some true, some n => (aRow A a n).map fun cs => .agg cs.toArray
  | some false, _ => aCell A a
  | _, _ => none
theorem aLoad_eq (P : Program) (A : AH) (t : TypeId) (a : Addr) : aLoad P A t a = aLoadK A a (tAgg P t) (tSize P t) := by
  unfold aLoad aLoadK
  cases tAgg P t with
  | none => rfl
  | some b => cases b <;> cases tSize P t <;> rfl
def LoadV (P : Program) (A : AH) (t : TypeId) (K : Option Value → Prop) : Value → Prop
  | .pointer (some a) => K (aLoadK A a (tAgg P t) (tSize P t))
  | _ => False
def aStoreK (ro : Nat) (A : AH) (a : Addr) : AObj → Option (List Value) → Option Nat → Option AH
  | .cells c e, some vs, some n => if vs.length = n ∧ ro ≤ a.block ∧ a.off + n ≤ c.length then some (A.put a.block (.cells (setCells c a.off vs) e)) else none
  | _, _, _ => none
def StoreV (P : Program) (ro : Nat) (A : AH) (t : TypeId) (v : Value) (K : Option AH → Prop) : Value → Prop
  | .pointer (some ⟨b, off, none⟩) => K (aStoreK ro A ⟨b, off, none⟩ (A.get b) (acells v) (tSize P t))
  | _ => False
def TgtV (P : Program) (ro : Nat) (X : FuncId → List Value → AH → ARes → AH → Prop) (A : AH) (K : ARes → AH → Prop) (as : List Value) : Value → Prop
  | .func (.func g) first captured => ACalls P ro X g (first.toList ++ as ++ captured.toList) A K
  | _ => False
def opDst (os : List Oper) (j : Nat) : Option Nat := match os[j]? with | some o => o.dst | none => none
def guardB (want : Bool) : Value → Bool
  | .bool b => b == want
  | _ => false
def guardD (want : Bool) (e : Env) : Option Nat → Bool
  | some d => guardB want (e d)
  | none => false
theorem wanted_none (d : Option Tmp) (op : Op) (t : TypeId) (p : String) (af : Array Edge) : aWanted ops ⟨d, op, t, p, af, none⟩ e = true := rfl
theorem wanted_some (d : Option Tmp) (op : Op) (t : TypeId) (p : String) (af : Array Edge) (j : Nat) (w : Bool) :
    aWanted ops ⟨d, op, t, p, af, some (j, w)⟩ e = guardD w e (opDst ops.toList j) := by
  unfold aWanted guardD opDst guardB
  simp only [Array.getElem?_toList]
  cases ops[j]? <;> simp
  rename_i o
  cases o.dst <;> rfl
theorem opDst_z (o : Oper) (os : List Oper) : opDst (o :: os) 0 = o.dst := rfl
theorem opDst_s (o : Oper) (os : List Oper) (j : Nat) : opDst (o :: os) (j + 1) = opDst os j := rfl
theorem run_move {x : Operand} : RunOp P ro X ops D Q o rest i e A (.move x) = Put ops D o rest i e A (e.eval x) A := rfl
theorem run_assign {x : Operand} : RunOp P ro X ops D Q o rest i e A (.assign x) = Put ops D o rest i e A (e.eval x) A := rfl
theorem run_pick {c a b : Operand} : RunOp P ro X ops D Q o rest i e A (.pick c a b) = PickV (e.eval a) (e.eval b) (fun v => Put ops D o rest i e A v A) (e.eval c) := by
  simp only [RunOp, RunT, RunP, aTarget, aPanic, aOp]
  cases e.eval c <;> rfl
theorem run_alloc {t : TypeId} : RunOp P ro X ops D Q o rest i e A (.alloc t) = PutB ops D o rest i e A (aOp P ro A.size (.alloc t) e A) := RunO_eq _
theorem run_box {t : TypeId} {x : Operand} : RunOp P ro X ops D Q o rest i e A (.box t x) = PutB ops D o rest i e A (aOp P ro A.size (.box t x) e A) := RunO_eq _
theorem run_build {t : TypeId} {ps : Array (Nat × Operand)} : RunOp P ro X ops D Q o rest i e A (.build t ps) = PutB ops D o rest i e A (aOp P ro A.size (.build t ps) e A) := RunO_eq _
theorem run_buildSlice {t : TypeId} {n : Nat} {ps : Array (Nat × Operand)} : RunOp P ro X ops D Q o rest i e A (.buildSlice t n ps) = PutB ops D o rest i e A (aOp P ro A.size (.buildSlice t n ps) e A) := RunO_eq _
theorem run_load {t : TypeId} {x : Operand} : RunOp P ro X ops D Q o rest i e A (.load t x) = LoadV P A t (PutV ops D o rest i e A) (e.eval x) := by
  simp only [RunOp, RunT, RunP, aTarget, aPanic, aOp]
  cases e.eval x <;> try rfl
  rename_i a
  cases a with
  | none => rfl
  | some a => simp only [LoadV, ← aLoad_eq]; cases aLoad P A t a <;> rfl
theorem run_store {t : TypeId} {x v : Operand} : RunOp P ro X ops D Q o rest i e A (.store t x v) = StoreV P ro A t (e.eval v) (PutA ops D o rest i e A) (e.eval x) := by
  simp only [RunOp, RunT, RunP, aTarget, aPanic, aOp]
  cases e.eval x <;> try rfl
  rename_i a
  cases a with
  | none => rfl
  | some a =>
    obtain ⟨b, off, sp⟩ := a
    cases sp with
    | some s => simp only [StoreV]; simp [aStore, RunO]
    | none =>
      simp only [StoreV]
      have : aStore P ro A t ⟨b, off, none⟩ (e.eval v) = aStoreK ro A ⟨b, off, none⟩ (A.get b) (acells (e.eval v)) (tSize P t) := by
        unfold aStore aStoreK
        cases A.get b <;> cases acells (e.eval v) <;> cases tSize P t <;> rfl
      rw [this]
      cases aStoreK ro A ⟨b, off, none⟩ (A.get b) (acells (e.eval v)) (tSize P t) <;> rfl
theorem run_nilCheck {x : Operand} : RunOp P ro X ops D Q o rest i e A (.nilCheck x) = PutB ops D o rest i e A (aOp P ro A.size (.nilCheck x) e A) := RunO_eq _
theorem run_binOp {op : BinOp} {t t' : TypeId} {x y : Operand} : RunOp P ro X ops D Q o rest i e A (.binOp op t x y t') = PutV ops D o rest i e A (aBin P op t (e.eval x) (e.eval y)) := by
  simp only [RunOp, RunT, RunP, aTarget, aPanic, aOp]
  cases aBin P op t (e.eval x) (e.eval y) <;> rfl
theorem run_unOp {op : UnOp} {t : TypeId} {x : Operand} : RunOp P ro X ops D Q o rest i e A (.unOp op t x) = PutV ops D o rest i e A (aUn op (e.eval x)) := by
  simp only [RunOp, RunT, RunP, aTarget, aPanic, aOp]
  cases aUn op (e.eval x) <;> rfl
theorem run_convert {s d : TypeId} {x : Operand} : RunOp P ro X ops D Q o rest i e A (.convert s d x) = PutB ops D o rest i e A (aConvert P A.size A s d (e.eval x)) := RunO_eq _
theorem run_makeInterface {t : TypeId} {x : Operand} : RunOp P ro X ops D Q o rest i e A (.makeInterface t x) = PutB ops D o rest i e A (aOp P ro A.size (.makeInterface t x) e A) := RunO_eq _
theorem run_makeFunc {f : Fn} {a b : Array Operand} : RunOp P ro X ops D Q o rest i e A (.makeFunc f a b) = Put ops D o rest i e A (.func f (a.map e.eval) (b.map e.eval)) A := rfl
theorem run_makeMap {t : TypeId} : RunOp P ro X ops D Q o rest i e A (.makeMap t none) = Put ops D o rest i e A (.map (some A.size)) (A.new (.map [])) := by
  rw [← AH.newAt_self]; rfl
theorem run_makeSlice {t : TypeId} {l c : Operand} : RunOp P ro X ops D Q o rest i e A (.makeSlice t l c) = PutB ops D o rest i e A (aMakeSlice P A.size A t (e.eval l) (e.eval c)) := RunO_eq _
theorem run_slice {t : TypeId} {x : Operand} {lo hi mx : Option Operand} :
    RunOp P ro X ops D Q o rest i e A (.slice t x lo hi mx) = PutV ops D o rest i e A (aSlice P A t (e.eval x) (lo.map e.eval) (hi.map e.eval) (mx.map e.eval)) := by
  simp only [RunOp, RunT, RunP, aTarget, aPanic, aOp]
  cases aSlice P A t (e.eval x) (lo.map e.eval) (hi.map e.eval) (mx.map e.eval) <;> rfl
def FieldV (K : Value → Prop) : Option (Nat × TypeId) → Value → Prop
  | some (off, _), .pointer (some a) => K (.pointer (some (a.add off)))
  | _, _ => False
theorem run_fieldAddr {t : TypeId} {x : Operand} {f : Nat} : RunOp P ro X ops D Q o rest i e A (.fieldAddr t x f) = FieldV (fun v => Put ops D o rest i e A v A) (tField P t f) (e.eval x) := by
  simp only [RunOp, RunT, RunP, aTarget, aPanic, aOp]
  cases tField P t f with
  | none => rfl
  | some of =>
    obtain ⟨off, ft⟩ := of
    cases e.eval x <;> try rfl
    rename_i a
    cases a <;> rfl
theorem run_field {t : TypeId} {x : Operand} {f : Nat} : RunOp P ro X ops D Q o rest i e A (.field t x f) = PutB ops D o rest i e A (aOp P ro A.size (.field t x f) e A) := RunO_eq _
theorem run_indexAddr {t : TypeId} {x y : Operand} : RunOp P ro X ops D Q o rest i e A (.indexAddr t x y) = PutV ops D o rest i e A (aIndexAddr P t (e.eval x) (e.eval y)) := by
  simp only [RunOp, RunT, RunP, aTarget, aPanic, aOp]
  cases aIndexAddr P t (e.eval x) (e.eval y) <;> rfl
theorem run_index {t : TypeId} {x y : Operand} : RunOp P ro X ops D Q o rest i e A (.index t x y) = PutV ops D o rest i e A (aIndex P t (e.eval x) (e.eval y)) := by
  simp only [RunOp, RunT, RunP, aTarget, aPanic, aOp]
  cases aIndex P t (e.eval x) (e.eval y) <;> rfl
theorem run_lookup {t : TypeId} {m k : Operand} {ok : Bool} : RunOp P ro X ops D Q o rest i e A (.lookup t m k ok) = PutV ops D o rest i e A (aLookup P A t (e.eval m) (e.eval k) ok) := by
  simp only [RunOp, RunT, RunP, aTarget, aPanic, aOp]
  cases aLookup P A t (e.eval m) (e.eval k) ok <;> rfl
theorem run_mapUpdate {t : TypeId} {m k v : Operand} : RunOp P ro X ops D Q o rest i e A (.mapUpdate t m k v) = PutA ops D o rest i e A (aMapSet P ro A t (e.eval m) (e.eval k) (e.eval v)) := by
  simp only [RunOp, RunT, RunP, aTarget, aPanic, aOp]
  cases aMapSet P ro A t (e.eval m) (e.eval k) (e.eval v) <;> rfl
def ExtractV (i : Nat) (K : Option Value → Prop) : Value → Prop
  | .tuple vs => K vs.toList[i]?
  | _ => False
theorem run_extract {x : Operand} {j : Nat} : RunOp P ro X ops D Q o rest i e A (.extract x j) = ExtractV j (PutV ops D o rest i e A) (e.eval x) := by
  simp only [RunOp, RunT, RunP, aTarget, aPanic, aOp]
  cases e.eval x <;> try rfl
  rename_i vs
  simp only [ExtractV]
  cases vs.toList[j]? <;> rfl
theorem run_len {x : Operand} {t : TypeId} : RunOp P ro X ops D Q o rest i e A (.call ⟨.builtin .len, #[x], #[t]⟩) = PutV ops D o rest i e A (aLen P A t (e.eval x)) := by
  simp only [RunOp, RunT, RunP, aTarget, aPanic, aOp]
  cases aLen P A t (e.eval x) <;> rfl
theorem run_append {s x : Operand} {t t2 : TypeId} : RunOp P ro X ops D Q o rest i e A (.call ⟨.builtin .append, #[s, x], #[t, t2]⟩) =
    PutB ops D o rest i e A (match tKind P t2 with | some .slice | some .str => aAppend P ro A t (e.eval s) (e.eval x) | _ => none) := RunO_eq _
theorem run_min {as : Array Operand} {ts : Array TypeId} : RunOp P ro X ops D Q o rest i e A (.call ⟨.builtin .min, as, ts⟩) = PutV ops D o rest i e A (aMin (as.toList.map e.eval)) := by
  simp only [RunOp, RunT, RunP, aTarget, aPanic, aOp]
  cases aMin (as.toList.map e.eval) <;> rfl
theorem run_call {f : Operand} {as : Array Operand} {ts : Array TypeId} :
    RunOp P ro X ops D Q o rest i e A (.call ⟨.value f, as, ts⟩) = TgtV P ro X A (RunK ops D o i e A Q rest) (as.toList.map e.eval) (e.eval f) := by
  simp only [RunOp, aTarget, aPanic, aOp]
  cases e.eval f <;> try rfl
  rename_i fn a b
  cases fn <;> rfl
def PanicV (K : Value → Prop) : Value → Prop
  | .iface t v => K (.iface t v)
  | _ => False
theorem run_panic {x : Operand} : RunOp P ro X ops D Q o rest i e A (.panic x) = PanicV (fun v => D = none ∧ Q (.pan v) e A) (e.eval x) := by
  simp only [RunOp, RunT, aTarget, aPanic, aOp]
  cases e.eval x <;> rfl
def assertK (A : AH) (d : TypeId) : Option Kind → Option Value → Value → Option (Value × AH)
  | some .struct, some z, .iface t v => some (if t = d then .tuple #[v, .bool true] else .tuple #[z, .bool false], A)
  | _, _, _ => none
theorem run_assert {x : Operand} {xt d : TypeId} : RunOp P ro X ops D Q o rest i e A (.typeAssert x xt d true) = PutB ops D o rest i e A (assertK A d (tKind P d) (tZero P d) (e.eval x)) := RunO_eq _
theorem put_tmp (d : Nat) (v : Value) (t : Nat) : Env.put e (some d) v t = if t = d then v else e t := by
  unfold Env.put
  by_cases h : t = d
  · subst h; simp
  · rw [if_neg h, if_neg (fun h' => h (by cases h'; rfl))]
theorem put_none (v : Value) (t : Nat) : Env.put e none v t = e t := by simp [Env.put]
end
theorem amTA (P : Program) (ro : Nat) (X : FuncId → List Value → AH → ARes → AH → Prop) :
    (∀ (ops : Array Oper) (D : Option (Nat → Prop)) (Q : Post) (o : Oper) (rest : Rest) (i : Nat) (e : Env) (A : AH) (x : Operand) (xt d : TypeId), RunOp P ro X ops D Q o rest i e A (.typeAssert x xt d true) = PutB ops D o rest i e A (assertK A d (tKind P d) (tZero P d) (e.eval x))) ∧
    (∀ A d z t v, assertK A d (some .struct) (some z) (.iface t v) = some (if t = d then .tuple #[v, .bool true] else .tuple #[z, .bool false], A)) :=
  ⟨fun _ _ _ _ _ _ _ _ _ _ _ => run_assert, fun _ _ _ _ _ => rfl⟩
end Go.AM
