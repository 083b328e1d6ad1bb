/- The abstract machine: the equations, gathered into a few statements, so that one name calls them all. -/
import Derived.Test.YtmelgjblkmbhjaaGreatDoorAmD
namespace Go.AM
open Go
/-- Values, slots, tests. -/
theorem amV :
    (∀ (e : Env) (t : Nat), e.eval (.tmp t) = e t) ∧ (∀ (e : Env) (v : Value), e.eval (.const v) = v) ∧ (∀ (e : Env) (g : Nat), e.eval (.global g) = .pointer (some ⟨g, 0, none⟩)) ∧
    (∀ (e : Env) (f : Nat), e.eval (.func f) = .func (.func f) #[] #[]) ∧
    (∀ (e : Env) (d : Nat) (v : Value) (t : Nat), Env.put e (some d) v t = if t = d then v else e t) ∧ (∀ (e : Env) (v : Value) (t : Nat), Env.put e none v t = e t) ∧
    (∀ (as : List Value) (t : Nat), Env.enter as t = as.getD t undef) ∧
    (∀ (w b : Bool), guardB w (.bool b) = (b == w)) ∧ (∀ (w : Bool) (e : Env) (d : Nat), guardD w e (some d) = guardB w (e d)) ∧
    (∀ (o : Oper) (os : List Oper), opDst (o :: os) 0 = o.dst) ∧ (∀ (o : Oper) (os : List Oper) (j : Nat), opDst (o :: os) (j + 1) = opDst os j) :=
  ⟨fun _ _ => rfl, fun _ _ => rfl, fun _ _ => rfl, fun _ _ => rfl, fun _ _ _ _ => put_tmp _ _ _, fun _ _ _ => put_none _ _, fun _ _ => rfl, fun _ _ => rfl, fun _ _ _ => rfl, opDst_z, opDst_s⟩
section
variable (P : Program) (ro : Nat) (X : FuncId → List Value → AH → ARes → AH → Prop)
/-- Code. -/
theorem amC :
    (∀ Q e A, RunC P ro X .skip Q e A = Q .normal e A) ∧ (∀ a b Q e A, RunC P ro X (.seq a b) Q e A = RunC P ro X a (thenQ (RunC P ro X b Q) Q) e A) ∧
    (∀ c a b Q e A, RunC P ro X (.cond c a b) Q e A = CondV (RunC P ro X a Q) (RunC P ro X b Q) e A (e.eval c)) ∧
    (∀ n a Q e A, RunC P ro X (.block n a) Q e A = RunC P ro X a (blockQ n Q) e A) ∧ (∀ n Q e A, RunC P ro X (.exit n) Q e A = Q (.exit n) e A) ∧
    (∀ Q e A, RunC P ro X .ret Q e A = Q .ret e A) ∧ (∀ n ops Q e A, RunC P ro X (.region n ops false) Q e A = RunL P ro X ops none Q ops.toList 0 e A) ∧
    (∀ ops D Q i e A, RunL P ro X ops D Q [] i e A = Q .normal e A) ∧
    (∀ ops D Q o os i e A, RunL P ro X ops D Q (o :: os) i e A = RunW (RunL P ro X ops D Q os) o i e A (RunOp P ro X ops D Q o (RunL P ro X ops D Q os) i e A) (aWanted ops o e)) :=
  ⟨fun _ _ _ => rfl, fun _ _ _ _ _ => rfl, fun _ _ _ _ _ _ => rfl, fun _ _ _ _ _ => rfl, fun _ _ _ _ => rfl, fun _ _ _ => rfl, fun _ _ _ _ _ => rfl, fun _ _ _ _ _ _ => rfl,
    fun _ _ _ _ _ _ _ _ => rfl⟩
/-- Operations. -/
theorem amO (ops : Array Oper) (D : Option (Nat → Prop)) (Q : Post) (o : Oper) (rest : Rest) (i : Nat) (e : Env) (A : AH) :
    (∀ x, RunOp P ro X ops D Q o rest i e A (.move x) = Put ops D o rest i e A (e.eval x) A) ∧
    (∀ x, RunOp P ro X ops D Q o rest i e A (.assign x) = Put ops D o rest i e A (e.eval x) A) ∧
    (∀ c a b, RunOp P ro X ops D Q o rest i e A (.pick c a b) = PickV (e.eval a) (e.eval b) (fun v => Put ops D o rest i e A v A) (e.eval c)) ∧
    (∀ t, RunOp P ro X ops D Q o rest i e A (.alloc t) = PutB ops D o rest i e A (aOp P ro A.size (.alloc t) e A)) ∧
    (∀ t x, RunOp P ro X ops D Q o rest i e A (.box t x) = PutB ops D o rest i e A (aOp P ro A.size (.box t x) e A)) ∧
    (∀ t ps, RunOp P ro X ops D Q o rest i e A (.build t ps) = PutB ops D o rest i e A (aOp P ro A.size (.build t ps) e A)) ∧
    (∀ t n ps, RunOp P ro X ops D Q o rest i e A (.buildSlice t n ps) = PutB ops D o rest i e A (aOp P ro A.size (.buildSlice t n ps) e A)) ∧
    (∀ t x, RunOp P ro X ops D Q o rest i e A (.load t x) = LoadV P A t (PutV ops D o rest i e A) (e.eval x)) ∧
    (∀ t x v, RunOp P ro X ops D Q o rest i e A (.store t x v) = StoreV P ro A t (e.eval v) (PutA ops D o rest i e A) (e.eval x)) ∧
    (∀ x, RunOp P ro X ops D Q o rest i e A (.nilCheck x) = PutB ops D o rest i e A (aOp P ro A.size (.nilCheck x) e A)) ∧
    (∀ op t x y t', RunOp P ro X ops D Q o rest i e A (.binOp op t x y t') = PutV ops D o rest i e A (aBin P op t (e.eval x) (e.eval y))) ∧
    (∀ op t x, RunOp P ro X ops D Q o rest i e A (.unOp op t x) = PutV ops D o rest i e A (aUn op (e.eval x))) ∧
    (∀ s d x, RunOp P ro X ops D Q o rest i e A (.convert s d x) = PutB ops D o rest i e A (aConvert P A.size A s d (e.eval x))) ∧
    (∀ t x, RunOp P ro X ops D Q o rest i e A (.makeInterface t x) = PutB ops D o rest i e A (aOp P ro A.size (.makeInterface t x) e A)) ∧
    (∀ f a b, RunOp P ro X ops D Q o rest i e A (.makeFunc f a b) = Put ops D o rest i e A (.func f (a.map e.eval) (b.map e.eval)) A) ∧
    (∀ t, RunOp P ro X ops D Q o rest i e A (.makeMap t none) = Put ops D o rest i e A (.map (some A.size)) (A.new (.map []))) ∧
    (∀ t l c, RunOp P ro X ops D Q o rest i e A (.makeSlice t l c) = PutB ops D o rest i e A (aMakeSlice P A.size A t (e.eval l) (e.eval c))) ∧
    (∀ t x lo hi mx, RunOp P ro X ops D Q o rest i e A (.slice t x lo hi mx) = PutV ops D o rest i e A (aSlice P A t (e.eval x) (lo.map e.eval) (hi.map e.eval) (mx.map e.eval))) ∧
    (∀ t x f, RunOp P ro X ops D Q o rest i e A (.fieldAddr t x f) = FieldV (fun v => Put ops D o rest i e A v A) (tField P t f) (e.eval x)) ∧
    (∀ t x f, RunOp P ro X ops D Q o rest i e A (.field t x f) = PutB ops D o rest i e A (aOp P ro A.size (.field t x f) e A)) ∧
    (∀ t x y, RunOp P ro X ops D Q o rest i e A (.indexAddr t x y) = PutV ops D o rest i e A (aIndexAddr P t (e.eval x) (e.eval y))) ∧
    (∀ t x y, RunOp P ro X ops D Q o rest i e A (.index t x y) = PutV ops D o rest i e A (aIndex P t (e.eval x) (e.eval y))) ∧
    (∀ t m k ok, RunOp P ro X ops D Q o rest i e A (.lookup t m k ok) = PutV ops D o rest i e A (aLookup P A t (e.eval m) (e.eval k) ok)) ∧
    (∀ t m k v, RunOp P ro X ops D Q o rest i e A (.mapUpdate t m k v) = PutA ops D o rest i e A (aMapSet P ro A t (e.eval m) (e.eval k) (e.eval v))) ∧
    (∀ x j, RunOp P ro X ops D Q o rest i e A (.extract x j) = ExtractV j (PutV ops D o rest i e A) (e.eval x)) ∧
    (∀ x t, RunOp P ro X ops D Q o rest i e A (.call ⟨.builtin .len, #[x], #[t]⟩) = PutV ops D o rest i e A (aLen P A t (e.eval x))) ∧
    (∀ s x t t2, RunOp P ro X ops D Q o rest i e A (.call ⟨.builtin .append, #[s, x], #[t, t2]⟩) =
      PutB ops D o rest i e A (match tKind P t2 with | some .slice | some .str => aAppend P ro A t (e.eval s) (e.eval x) | _ => none)) ∧
    (∀ as ts, RunOp P ro X ops D Q o rest i e A (.call ⟨.builtin .min, as, ts⟩) = PutV ops D o rest i e A (aMin (as.toList.map e.eval))) ∧
    (∀ f as ts, RunOp P ro X ops D Q o rest i e A (.call ⟨.value f, as, ts⟩) = TgtV P ro X A (RunK ops D o i e A Q rest) (as.toList.map e.eval) (e.eval f)) ∧
    (∀ x, RunOp P ro X ops D Q o rest i e A (.panic x) = PanicV (fun v => D = none ∧ Q (.pan v) e A) (e.eval x)) :=
  ⟨fun _ => run_move, fun _ => run_assign, fun _ _ _ => run_pick, fun _ => run_alloc, fun _ _ => run_box, fun _ _ => run_build, fun _ _ _ => run_buildSlice, fun _ _ => run_load, fun _ _ _ => run_store,
    fun _ => run_nilCheck, fun _ _ _ _ _ => run_binOp, fun _ _ _ => run_unOp, fun _ _ _ => run_convert, fun _ _ => run_makeInterface, fun _ _ _ => run_makeFunc, fun _ => run_makeMap, fun _ _ _ => run_makeSlice,
    fun _ _ _ _ _ => run_slice, fun _ _ _ => run_fieldAddr, fun _ _ _ => run_field, fun _ _ _ => run_indexAddr, fun _ _ _ => run_index, fun _ _ _ _ => run_lookup, fun _ _ _ _ => run_mapUpdate,
    fun _ _ => run_extract, fun _ _ => run_len, fun _ _ _ _ => run_append, fun _ _ => run_min, fun _ _ _ => run_call, fun _ => run_panic⟩
end
/-- What follows. -/
theorem amK :
    (∀ f g e A b, CondV f g e A (.bool b) = CondB f g e A b) ∧ (∀ f g e A, CondB f g e A true = f e A) ∧ (∀ f g e A, CondB f g e A false = g e A) ∧
    (∀ (K : Env → AH → Prop) (Q : Post) e A, thenQ K Q .normal e A = K e A) ∧ (∀ (K : Env → AH → Prop) (Q : Post) n e A, thenQ K Q (.exit n) e A = Q (.exit n) e A) ∧
    (∀ (K : Env → AH → Prop) (Q : Post) e A, thenQ K Q .ret e A = Q .ret e A) ∧ (∀ (K : Env → AH → Prop) (Q : Post) v e A, thenQ K Q (.pan v) e A = Q (.pan v) e A) ∧
    (∀ n (Q : Post) e A, blockQ n Q .normal e A = Q .normal e A) ∧ (∀ n m (Q : Post) e A, blockQ n Q (.exit m) e A = if m = n then Q .normal e A else Q (.exit m) e A) ∧
    (∀ n (Q : Post) e A, blockQ n Q .ret e A = Q .ret e A) ∧ (∀ n (Q : Post) v e A, blockQ n Q (.pan v) e A = Q (.pan v) e A) ∧
    (∀ (rest : Rest) o i e A N, RunW rest o i e A N true = N o.op) ∧ (∀ (rest : Rest) o i e A N, RunW rest o i e A N false = rest (i + 1) (e.put o.dst undef) A) ∧
    (∀ ops o (rest : Rest) i e A v A1, Put ops none o rest i e A v A1 = rest (i + 1) (e.put o.dst v) A1) ∧
    (∀ ops D o (rest : Rest) i e A v, PutV ops D o rest i e A (some v) = Put ops D o rest i e A v A) ∧ (∀ ops D o (rest : Rest) i e A A1, PutA ops D o rest i e A (some A1) = Put ops D o rest i e A undef A1) ∧
    (∀ ops D o (rest : Rest) i e A v A1, PutB ops D o rest i e A (some (v, A1)) = Put ops D o rest i e A v A1) ∧
    (∀ x y K b, PickV x y K (.bool b) = K (if b then x else y)) ∧ (∀ (P : Program) (A : AH) (t : TypeId) (K : Option Value → Prop) (a : Addr), LoadV P A t K (.pointer (some a)) = K (aLoadK A a (tAgg P t) (tSize P t))) ∧
    (∀ (P : Program) (ro : Nat) (A : AH) (t : TypeId) (v : Value) (K : Option AH → Prop) (b off : Nat), StoreV P ro A t v K (.pointer (some ⟨b, off, none⟩)) = K (aStoreK ro A ⟨b, off, none⟩ (A.get b) (acells v) (tSize P t))) ∧
    (∀ P ro X A K as g f c, TgtV P ro X A K as (.func (.func g) f c) = ACalls P ro X g (f.toList ++ as ++ c.toList) A K) ∧
    (∀ (K : Value → Prop) (off : Nat) (ft : TypeId) (a : Addr), FieldV K (some (off, ft)) (.pointer (some a)) = K (.pointer (some (a.add off)))) ∧ (∀ j K vs, ExtractV j K (.tuple vs) = K vs.toList[j]?) ∧
    (∀ (K : Value → Prop) (t : TypeId) (v : Value), PanicV K (.iface t v) = K (.iface t v)) ∧
    (∀ ops o i e A (Q : Post) (rest : Rest) v A1, RunK ops none o i e A Q rest (.ret v) A1 = rest (i + 1) (e.put o.dst v) A1) ∧
    (∀ ops o i e A (Q : Post) (rest : Rest) v A1, RunK ops none o i e A Q rest (.pan v) A1 = Q (.pan v) e A1) ∧
    (∀ (ops : Array Oper) (d : Option Tmp) (op : Op) (t : TypeId) (p : String) (af : Array Edge) (e : Env), aWanted ops ⟨d, op, t, p, af, none⟩ e = true) ∧
    (∀ (ops : Array Oper) (d : Option Tmp) (op : Op) (t : TypeId) (p : String) (af : Array Edge) (j : Nat) (w : Bool) (e : Env), aWanted ops ⟨d, op, t, p, af, some (j, w)⟩ e = guardD w e (opDst ops.toList j)) :=
  ⟨fun _ _ _ _ _ => rfl, fun _ _ _ _ => rfl, fun _ _ _ _ => rfl, fun _ _ _ _ => rfl, fun _ _ _ _ _ => rfl, fun _ _ _ _ => rfl, fun _ _ _ _ _ => rfl, fun _ _ _ _ => rfl, fun _ _ _ _ _ => rfl, fun _ _ _ _ => rfl,
    fun _ _ _ _ _ => rfl, fun _ _ _ _ _ _ => rfl, fun _ _ _ _ _ _ => rfl, fun _ _ _ _ _ _ _ _ => Put_none, fun _ _ _ _ _ _ _ _ => rfl, fun _ _ _ _ _ _ _ _ => rfl, fun _ _ _ _ _ _ _ _ _ => rfl, fun _ _ _ _ => rfl,
    fun _ _ _ _ _ => rfl, fun _ _ _ _ _ _ _ _ => rfl, fun _ _ _ _ _ _ _ _ _ => rfl, fun _ _ _ _ => rfl, fun _ _ _ => rfl, fun _ _ _ => rfl, fun _ _ _ _ _ _ _ _ _ => by simp [RunK, Owed], fun _ _ _ _ _ _ _ _ _ => by simp [RunK],
    fun _ _ _ _ _ _ _ => rfl, fun _ _ _ _ _ _ _ _ _ => wanted_some _ _ _ _ _ _ _⟩
/-- Operators. -/
theorem amB (P : Program) :
    (∀ t k a b, aBin P .add t (.int k a) (.int k b) = some (.int k (k.wrap (a + b)))) ∧ (∀ t k a b, aBin P .sub t (.int k a) (.int k b) = some (.int k (k.wrap (a - b)))) ∧
    (∀ t k a b, aBin P .mul t (.int k a) (.int k b) = some (.int k (k.wrap (a * b)))) ∧
    (∀ t k a b, aBin P .eql t (.int k a) (.int k b) = some (.bool (a == b))) ∧ (∀ t k a b, aBin P .neq t (.int k a) (.int k b) = some (.bool (a != b))) ∧
    (∀ t k a b, aBin P .lss t (.int k a) (.int k b) = some (.bool (decide (a < b)))) ∧ (∀ t k a b, aBin P .leq t (.int k a) (.int k b) = some (.bool (decide (a ≤ b)))) ∧
    (∀ t k a b, aBin P .gtr t (.int k a) (.int k b) = some (.bool (decide (b < a)))) ∧ (∀ t k a b, aBin P .geq t (.int k a) (.int k b) = some (.bool (decide (b ≤ a)))) ∧
    (∀ (t : TypeId) (a b : ByteArray), aBin P .eql t (.string a) (.string b) = some (.bool (a.toList == b.toList))) ∧ (∀ t a b, aBin P .neq t (.string a) (.string b) = some (.bool (!(a.toList == b.toList)))) ∧
    (∀ t a b, aBin P .add t (.string a) (.string b) = if a.size + b.size < 4611686018427387904 then some (.string (a ++ b)) else none) ∧
    (∀ b, aUn .not (.bool b) = some (.bool (!b))) ∧
    (∀ (A : AH) (t : TypeId) (s : ByteArray), aLen P A t (.string s) = if tKind P t = some .str then some (.int .i64 s.size) else none) ∧
    (∀ A t a n c, aLen P A t (.slice a n c) = if tKind P t = some .slice then some (.int .i64 n) else none) ∧
    (∀ A a n, aLoadK A a (some true) n = n.bind fun n => (aRow A a n).map fun cs => .agg cs.toArray) ∧ (∀ A a n, aLoadK A a (some false) n = aCell A a) :=
  ⟨fun _ k a b => by simp [aBin, aInt], fun _ k a b => by simp [aBin, aInt], fun _ k a b => by simp [aBin, aInt], fun _ k a b => by simp [aBin, aInt], fun _ k a b => by simp [aBin, aInt], fun _ k a b => by simp [aBin, aInt],
    fun _ k a b => by simp [aBin, aInt], fun _ k a b => by simp [aBin, aInt], fun _ k a b => by simp [aBin, aInt], fun _ _ _ => rfl, fun _ _ _ => rfl, fun _ _ _ => rfl, fun _ => rfl,
    fun A t s => by unfold aLen; cases tKind P t with | none => simp | some k => cases k <;> simp, fun A t a n c => by unfold aLen; cases tKind P t with | none => simp | some k => cases k <;> simp,
    fun A a n => by cases n <;> rfl, fun A a n => by cases n <;> rfl⟩
end Go.AM
