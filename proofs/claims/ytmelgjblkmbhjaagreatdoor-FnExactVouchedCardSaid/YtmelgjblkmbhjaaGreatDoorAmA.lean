/- The abstract machine: its heap, its operations, its big steps. Nothing of the model is changed: it is a way to reckon what a run answers, proved sound in the texts that follow. -/
import Derived.Orders
import Derived.Below
import Derived.KernelRfl
namespace Go.AM
open Go

/-- What lies under an abstract number: nothing that may be looked at, a row of cells (with the cells of one element), a map. -/
inductive AObj where
  | dead
  | cells (c : List Value) (e : Nat)
  | map (es : List (Value × Value))

/-- The abstract heap. -/
structure AH where
  get : Nat → AObj
  size : Nat

def AH.new (A : AH) (o : AObj) : AH := ⟨fun b => if b = A.size then o else A.get b, A.size + 1⟩
/-- A block more, under a number that is chosen. -/
def AH.newAt (A : AH) (n : Nat) (o : AObj) : AH := ⟨fun b => if b = n then o else A.get b, max A.size (n + 1)⟩
theorem AH.newAt_self (A : AH) (o : AObj) : A.newAt A.size o = A.new o := by
  have : max A.size (A.size + 1) = A.size + 1 := by omega
  simp only [AH.newAt, AH.new, this]
def AH.put (A : AH) (b : Nat) (o : AObj) : AH := ⟨fun b' => if b' = b then o else A.get b', A.size⟩

abbrev Env := Nat → Value
def Env.put (e : Env) (d : Option Nat) (v : Value) : Env := fun t => if d = some t then v else e t
def Env.eval (e : Env) : Operand → Value
  | .tmp t => e t
  | .const v => v
  | .global g => .pointer (some ⟨g, 0, none⟩)
  | .func f => .func (.func f) #[] #[]
def Env.enter (args : List Value) : Env := fun t => args.getD t undef

/-- The capacity of a slice of which only this is known: it reaches to its row's end. -/
def BIG : Nat := 4611686018427387904
/-- The most elements that a slice may come to. -/
def LIM : Nat := 4294967296

def acells : Value → Option (List Value)
  | .agg cs => some cs.toList
  | .tuple _ => none
  | v => some [v]
def ground1 : Value → Bool
  | .bool _ | .int _ _ | .string _ | .pointer none | .slice none 0 0 | .map none | .nilFunc | .nilIface => true
  | _ => false
def ground : Value → Bool
  | .agg cs => cs.toList.all ground1
  | v => ground1 v

/-! ### What the machine asks of types (closed facts of a program) -/
def tSize (P : Program) (t : TypeId) : Option Nat := (P.info? t).map (·.size)
def tZero (P : Program) (t : TypeId) : Option Value :=
  match (P.info? t).bind (·.zero) with
  | some z => if ground z then some z else none
  | none => none
def tAgg (P : Program) (t : TypeId) : Option Bool :=
  (P.underlying t).map fun | .struct _ | .array _ _ => true | _ => false
def tElem (P : Program) (t : TypeId) : Option TypeId :=
  match P.underlying t with
  | some (.slice e) => some e
  | _ => none
/-- An element's cells, and that it takes no more than 4096 bytes. -/
def tElemSize (P : Program) (t : TypeId) : Option Nat :=
  match tElem P t with
  | some e => match P.info? e, (tZero P e).bind acells with
    | some i, some z => if i.bytes ≤ 4096 ∧ z.length = i.size then some i.size else none
    | _, _ => none
  | none => none
/-- A field's place, its type; the field takes a cell at least. -/
def tField (P : Program) (t : TypeId) (f : Nat) : Option (Nat × TypeId) :=
  match P.underlying t with
  | some (.struct fs) => match fs[f]? with
    | some x => if (tSize P x.type).getD 0 = 0 then none else some (x.offset, x.type)
    | none => none
  | _ => none
/-- Of a struct type: each field's place and size. -/
def tPlaces (P : Program) (t : TypeId) : Option (List (Nat × Nat)) :=
  match P.underlying t with
  | some (.struct fs) => fs.toList.mapM fun f => (tSize P f.type).map fun n => (f.offset, n)
  | _ => none
/-- Of an array type: its length, its element's type and size. -/
def tArray (P : Program) (t : TypeId) : Option (Nat × TypeId × Nat) :=
  match P.underlying t with
  | some (.array n e) => (tSize P e).map fun s => (n, e, s)
  | _ => none
inductive Kind where
  | int (k : IntKind) | str | bool | ptr | slice | map | func | iface | struct | other
  deriving DecidableEq
def tKind (P : Program) (t : TypeId) : Option Kind :=
  (P.underlying t).map fun
    | .int k => .int k | .string => .str | .bool => .bool | .pointer _ => .ptr | .slice _ => .slice | .map _ _ => .map | .func _ _ _ => .func
    | .interface _ => .iface | .struct _ => .struct | _ => .other
/-- Of a slice type: whether its elements are bytes. -/
def tBytes (P : Program) (t : TypeId) : Bool :=
  match tElem P t with
  | some e => tKind P e == some (.int .u8)
  | none => false
/-- Of a map type: the kind of its keys, its elements' type. -/
def tMap (P : Program) (t : TypeId) : Option (Kind × TypeId) :=
  match P.underlying t with
  | some (.map k e) => (tKind P k).map fun q => (q, e)
  | _ => none

/-! ### Cells -/
def aCell (A : AH) (a : Addr) : Option Value :=
  match a.spot, A.get a.block with
  | none, .cells c _ => c[a.off]?
  | _, _ => none
def aRow (A : AH) (a : Addr) (n : Nat) : Option (List Value) :=
  match a.spot, A.get a.block with
  | none, .cells c _ => if a.off + n ≤ c.length then some ((c.drop a.off).take n) else none
  | _, _ => none
def setCells (c : List Value) (o : Nat) : List Value → List Value
  | [] => c
  | v :: vs => setCells (c.set o v) (o + 1) vs
def aLoad (P : Program) (A : AH) (t : TypeId) (a : Addr) : Option Value :=
  match tAgg P t with
  | some true => match tSize P t with
    | some n => (aRow A a n).map fun cs => .agg cs.toArray
    | none => none
  | some false => aCell A a
  | none => none
def aStore (P : Program) (ro : Nat) (A : AH) (t : TypeId) (a : Addr) (v : Value) : Option AH :=
  match a.spot, A.get a.block, acells v, tSize P t with
  | none, .cells c e, some vs, some n =>
    if vs.length = n ∧ ro ≤ a.block ∧ a.off + n ≤ c.length then some (A.put a.block (.cells (setCells c a.off vs) e)) else none
  | _, _, _, _ => none
def aFill (places : List (Nat × Nat)) (cells : List Value) : List (Nat × Value) → Option (List Value)
  | [] => some cells
  | (i, v) :: rest =>
    match places[i]?, acells v with
    | some (off, size), some vs => if vs.length = size ∧ off + size ≤ cells.length then aFill places (setCells cells off vs) rest else none
    | _, _ => none

/-! ### Operators -/
def aEqFields (P : Program) (xs ys : List Value) : List Field → Option Bool
  | [] => some true
  | f :: fs =>
    if f.name = "_" then none else
    match tKind P f.type, xs[f.offset]?, ys[f.offset]? with
    | some (.int _), some (.int k a), some (.int k' b) => if k = k' then (if a = b then aEqFields P xs ys fs else some false) else none
    | some .str, some (.string a), some (.string b) => if a.toList = b.toList then aEqFields P xs ys fs else some false
    | some .bool, some (.bool a), some (.bool b) => if a = b then aEqFields P xs ys fs else some false
    | _, _, _ => none
def aEq (P : Program) (t : TypeId) (x y : Value) : Option Bool :=
  match tKind P t, x, y with
  | some .bool, .bool a, .bool b => some (a == b)
  | some .ptr, .pointer none, .pointer b => some b.isNone
  | some .ptr, .pointer (some _), .pointer none => some false
  | some .slice, .slice none _ _, .slice b _ _ => some b.isNone
  | some .slice, .slice (some _) _ _, .slice none _ _ => some false
  | some .map, .map none, .map b => some b.isNone
  | some .map, .map (some _), .map none => some false
  | some .func, .nilFunc, .nilFunc => some true
  | some .func, .nilFunc, .func _ _ _ => some false
  | some .func, .func _ _ _, .nilFunc => some false
  | some .iface, .nilIface, .iface _ _ => some false
  | some .iface, .iface _ _, .nilIface => some false
  | some .struct, .agg xs, .agg ys =>
    match P.underlying t with
    | some (.struct fs) => if P.stoodInHeld t || P.eqGuardType P.depth t then none else aEqFields P xs.toList ys.toList fs.toList
    | _ => none
  | _, _, _ => none
def aInt (op : BinOp) (k : IntKind) (a b : Int) : Option Value :=
  match op with
  | .add => some (.int k (k.wrap (a + b)))
  | .sub => some (.int k (k.wrap (a - b)))
  | .mul => some (.int k (k.wrap (a * b)))
  | .quo => if b = 0 then none else some (.int k (k.wrap (a.tdiv b)))
  | .rem => if b = 0 then none else some (.int k (a.tmod b))
  | .and => some (.int k (k.wrap (BitVec.ofInt k.bits a &&& BitVec.ofInt k.bits b).toNat))
  | .or => some (.int k (k.wrap (BitVec.ofInt k.bits a ||| BitVec.ofInt k.bits b).toNat))
  | .xor => some (.int k (k.wrap (BitVec.ofInt k.bits a ^^^ BitVec.ofInt k.bits b).toNat))
  | .eql => some (.bool (a == b))
  | .neq => some (.bool (a != b))
  | .lss => some (.bool (decide (a < b)))
  | .leq => some (.bool (decide (a ≤ b)))
  | .gtr => some (.bool (decide (a > b)))
  | .geq => some (.bool (decide (a ≥ b)))
  | _ => none
def aStr (op : BinOp) (a b : ByteArray) : Option Value :=
  match op with
  | .add => if a.size + b.size < BIG then some (.string (a ++ b)) else none
  | .eql => some (.bool (a.toList == b.toList))
  | .neq => some (.bool (!(a.toList == b.toList)))
  | .lss => some (.bool (Op.bytesLess a.toList b.toList))
  | .leq => some (.bool (Op.bytesLess a.toList b.toList || a.toList == b.toList))
  | .gtr => some (.bool (!(Op.bytesLess a.toList b.toList || a.toList == b.toList)))
  | .geq => some (.bool (!(Op.bytesLess a.toList b.toList)))
  | _ => none
def aBin (P : Program) (op : BinOp) (t : TypeId) (x y : Value) : Option Value :=
  match x, y with
  | .int k a, .int k' b =>
    match op with
    | .shl => if b < 0 then none else some (.int k (k.wrap (a * 2 ^ (min b.toNat k.bits))))
    | .shr => if b < 0 then none else some (.int k (a.fdiv (2 ^ (min b.toNat k.bits))))
    | _ => if k = k' then aInt op k a b else none
  | .string a, .string b => aStr op a b
  | _, _ =>
    match op with
    | .eql => (aEq P t x y).map .bool
    | .neq => (aEq P t x y).map fun b => .bool (!b)
    | _ => none
def aUn (op : UnOp) (x : Value) : Option Value :=
  match op, x with
  | .not, .bool b => some (.bool (!b))
  | .neg, .int k n => some (.int k (k.wrap (0 - n)))
  | _, _ => none

def bytesOf (s : ByteArray) : List Value := s.data.toList.map fun b => .int .u8 b.toNat
def strOf : List Value → Option (List UInt8)
  | [] => some []
  | .int .u8 n :: r => (strOf r).map fun l => UInt8.ofNat n.toNat :: l
  | _ => none

/-! ### Slices -/
def aBound : Option Value → Nat → Option Nat
  | none, d => some d
  | some (.int _ i), _ => if 0 ≤ i then some i.toNat else none
  | _, _ => none
def aSlice (P : Program) (A : AH) (t : TypeId) (x : Value) (lo hi mx : Option Value) : Option Value :=
  match x with
  | .string s =>
    match tKind P t, aBound lo 0, aBound hi s.size, mx with
    | some .str, some l, some h, none => if l ≤ h ∧ h ≤ s.size then some (.string (s.extract l h)) else none
    | _, _, _, _ => none
  | .slice a len cap =>
    match tElemSize P t, aBound lo 0, aBound hi len with
    | some sz, some l, some h =>
      if l ≤ h ∧ h ≤ len then
        match mx with
        | none =>
          if cap < BIG then some (.slice (if cap = l then a else a.map (·.add (l * sz))) (h - l) (cap - l))
          else match a with
            | some p => match A.get p.block with
              | .cells _ e => if cap = BIG ∧ e = sz then some (.slice (some (p.add (l * sz))) (h - l) BIG) else none
              | _ => none
            | none => none
        | some v => match hi, aBound (some v) 0 with
          | some _, some m => if h ≤ m ∧ m ≤ len ∧ m < BIG then some (.slice (if m = l then a else a.map (·.add (l * sz))) (h - l) (m - l)) else none
          | _, _ => none
      else none
    | _, _, _ => none
  | .pointer (some p) =>
    match tArray P t, aBound lo 0, mx with
    | some (n, _, sz), some l, none => match aBound hi n with
      | some h => if l ≤ h ∧ h ≤ n ∧ n < BIG then some (.slice (some (if n = l then p else p.add (l * sz))) (h - l) (n - l)) else none
      | none => none
    | _, _, _ => none
  | _ => none
def aIndexAddr (P : Program) (t : TypeId) (x i : Value) : Option Value :=
  match x, i with
  | .slice (some a) len _, .int _ i =>
    match tElemSize P t with
    | some sz => if 0 ≤ i ∧ i < len then some (.pointer (some (a.add (i.toNat * sz)))) else none
    | none => none
  | .pointer (some a), .int _ i =>
    match tArray P t with
    | some (n, _, sz) => if 0 ≤ i ∧ i < n then some (.pointer (some (a.add (i.toNat * sz)))) else none
    | none => none
  | _, _ => none
def aIndex (P : Program) (t : TypeId) (x i : Value) : Option Value :=
  match x, i with
  | .string s, .int _ i =>
    match tKind P t with
    | some .str => if 0 ≤ i then (s.data[i.toNat]?).map fun b => .int .u8 b.toNat else none
    | _ => none
  | .agg cs, .int _ i =>
    match tArray P t with
    | some (n, e, 1) => if tAgg P e = some false ∧ 0 ≤ i ∧ i < n then cs.toList[i.toNat]? else none
    | _ => none
  | _, _ => none
/-- What is appended: how many elements, their cells. -/
def aSource (A : AH) (sz : Nat) : Value → Option (Nat × List Value)
  | .slice none 0 _ => some (0, [])
  | .slice (some b) n _ => if n = 0 then some (0, []) else (aRow A b (n * sz)).map fun cs => (n, cs)
  | .string s => if sz = 1 then some (s.size, bytesOf s) else none
  | _ => none
def aAppend (P : Program) (ro : Nat) (A : AH) (t : TypeId) (s x : Value) : Option (Value × AH) :=
  match tElemSize P t, s with
  | some sz, .slice base len cap =>
    match aSource A sz x with
    | some (n, new) =>
      if len + n < LIM then
        match base with
        | none => if len ≠ 0 ∨ cap ≠ 0 then none else if n = 0 then some (.slice none 0 0, A) else some (.slice (some ⟨A.size, 0, none⟩) n BIG, A.new (.cells new sz))
        | some a =>
          if cap < BIG then
            if n = 0 ∧ len ≤ cap then some (s, A)
            else if len + n ≤ cap then
              match a.spot, A.get a.block with
              | none, .cells c e => if ro ≤ a.block ∧ a.off + len * sz + n * sz ≤ c.length then some (.slice (some a) (len + n) cap, A.put a.block (.cells (setCells c (a.off + len * sz) new) e)) else none
              | _, _ => none
            else if len = 0 then some (.slice (some ⟨A.size, 0, none⟩) n BIG, A.new (.cells new sz))
            else match aRow A a (len * sz) with
              | some old => some (.slice (some ⟨A.size, 0, none⟩) (len + n) BIG, A.new (.cells (old ++ new) sz))
              | none => none
          else if cap = BIG ∧ ro ≤ a.block then
            match aRow A a (len * sz), A.get a.block with
            | some old, .cells _ e => if e = sz then some (.slice (some ⟨A.size, 0, none⟩) (len + n) BIG, (A.put a.block .dead).new (.cells (old ++ new) sz)) else none
            | _, _ => none
          else none
      else none
    | none => none
  | _, _ => none

/-! ### Maps -/
def aKeyEq : Kind → Value → Value → Option Bool
  | .int _, .int k a, .int k' b => if k = k' then some (decide (a = b)) else none
  | .str, .string a, .string b => some (decide (a.toList = b.toList))
  | .bool, .bool a, .bool b => some (a == b)
  | _, _, _ => none
def aFind (q : Kind) (k : Value) : List (Value × Value) → Option (Option Value)
  | [] => some none
  | (k', v) :: r => match aKeyEq q k k' with
    | some true => some (some v)
    | some false => aFind q k r
    | none => none
def aSet (q : Kind) (k v : Value) : List (Value × Value) → Option (List (Value × Value))
  | [] => some [(k, v)]
  | (k', v') :: r => match aKeyEq q k k' with
    | some true => some ((k, v) :: r)
    | some false => (aSet q k v r).map ((k', v') :: ·)
    | none => none
def aKeyOk : Kind → Value → Bool
  | .int _, .int _ _ => true
  | .str, .string _ => true
  | .bool, .bool _ => true
  | _, _ => false
def aEntries (A : AH) : Value → Option (List (Value × Value))
  | .map none => some []
  | .map (some r) => match A.get r with
    | .map es => some es
    | _ => none
  | _ => none
def aLookup (P : Program) (A : AH) (t : TypeId) (m k : Value) (ok : Bool) : Option Value :=
  match tMap P t with
  | some (q, e) =>
    match aEntries A m with
    | some es =>
      if aKeyOk q k then
        match aFind q k es with
        | some (some v) => some (if ok then .tuple #[v, .bool true] else v)
        | some none => match tZero P e with
          | some z => some (if ok then .tuple #[z, .bool false] else z)
          | none => none
        | none => none
      else none
    | none => none
  | none => none
def aMapSet (P : Program) (ro : Nat) (A : AH) (t : TypeId) (m k v : Value) : Option AH :=
  match tMap P t, m with
  | some (q, _), .map (some r) =>
    match A.get r, acells v with
    | .map es, some _ => if ro ≤ r ∧ aKeyOk q k then (aSet q k v es).map fun es' => A.put r (.map es') else none
    | _, _ => none
  | _, _ => none

/-! ### One operation (all but the calls of functions) -/
def aLen (P : Program) (A : AH) (t : TypeId) (x : Value) : Option Value :=
  match x, tKind P t with
  | .string s, some .str => some (.int .i64 s.size)
  | .slice _ n _, some .slice => some (.int .i64 n)
  | .map none, some .map => some (.int .i64 0)
  | .map (some r), some .map => match A.get r with | .map es => some (.int .i64 es.length) | _ => none
  | _, _ => none
def aMin : List Value → Option Value
  | [.int k a, .int k' b] => if k = k' then some (.int k (if b < a then b else a)) else none
  | _ => none
def aConvert (P : Program) (nx : Nat) (A : AH) (src dst : TypeId) (x : Value) : Option (Value × AH) :=
  match tKind P src, tKind P dst, x with
  | some (.int _), some (.int k), .int _ n => some (.int k (k.wrap n), A)
  | some .str, some .str, .string s => some (.string s, A)
  | some .str, some .slice, .string s => if tBytes P dst then some (.slice (some ⟨nx, 0, none⟩) s.size BIG, A.newAt nx (.cells (bytesOf s) 1)) else none
  | some .slice, some .str, .slice none _ _ => if tBytes P src then some (.string .empty, A) else none
  | some .slice, some .str, .slice (some a) n _ =>
    if tBytes P src then
      if n = 0 then some (.string .empty, A) else
      match aRow A a n with
      | some cs => (strOf cs).map fun l => (.string ⟨l.toArray⟩, A)
      | none => none
    else none
  | _, _, _ => none
def aMakeSlice (P : Program) (nx : Nat) (A : AH) (t : TypeId) (l c : Value) : Option (Value × AH) :=
  match tElem P t, tElemSize P t, l, c with
  | some e, some sz, .int _ l, .int _ c =>
    match (tZero P e).bind acells with
    | some z => if 0 ≤ l ∧ l = c ∧ l < LIM ∧ z.length = sz then some (.slice (some ⟨nx, 0, none⟩) l.toNat l.toNat, A.newAt nx (.cells (List.replicate l.toNat z).flatten sz)) else none
    | none => none
  | _, _, _, _ => none
/-- Whether a value is made of one cell or more (no tuple). -/
def plain (v : Value) : Bool := (acells v).isSome
def isFn : Value → Bool
  | .func (.func _) _ _ => true
  | _ => false
/-- One operation; what it makes bears the number nx. -/
def aOp (P : Program) (ro nx : Nat) (op : Op) (e : Env) (A : AH) : Option (Value × AH) :=
  match op with
  | .move x | .assign x => some (e.eval x, A)
  | .pick c a b => match e.eval c with
    | .bool t => some (if t then e.eval a else e.eval b, A)
    | _ => none
  | .alloc t => match (tZero P t).bind acells, tSize P t with
    | some z, some n => some (.pointer (some ⟨nx, 0, none⟩), A.newAt nx (.cells z n))
    | _, _ => none
  | .box t x => match acells (e.eval x), tSize P t with
    | some vs, some n => some (.pointer (some ⟨nx, 0, none⟩), A.newAt nx (.cells vs n))
    | _, _ => none
  | .build t parts => match tPlaces P t, (tZero P t).bind acells with
    | some ps, some z => (aFill ps z (parts.toList.map fun x => (x.1, e.eval x.2))).map fun cs => (.agg cs.toArray, A)
    | _, _ => none
  | .buildSlice t len parts => match tElem P t, tElemSize P t with
    | some el, some sz => match (tZero P el).bind acells with
      | some z =>
        if len * sz ≤ 16777216 ∧ z.length = sz ∧ len ≤ 16777216 then
          (aFill ((List.range len).map fun i => (i * sz, sz)) (List.replicate len z).flatten (parts.toList.map fun x => (x.1, e.eval x.2))).map fun cs =>
            (.slice (some ⟨nx, 0, none⟩) len len, A.newAt nx (.cells cs sz))
        else none
      | none => none
    | _, _ => none
  | .load t x => match e.eval x with
    | .pointer (some a) => (aLoad P A t a).map fun v => (v, A)
    | _ => none
  | .store t x v => match e.eval x with
    | .pointer (some a) => (aStore P ro A t a (e.eval v)).map fun A' => (undef, A')
    | _ => none
  | .nilCheck x => match e.eval x with
    | .pointer (some a) => some (.pointer (some a), A)
    | .func (.func f) x y => some (.func (.func f) x y, A)
    | _ => none
  | .binOp op t x y _ => (aBin P op t (e.eval x) (e.eval y)).map fun v => (v, A)
  | .unOp op _ x => (aUn op (e.eval x)).map fun v => (v, A)
  | .convert s d x => aConvert P nx A s d (e.eval x)
  | .makeInterface t x => match tKind P t with
    | some .iface => none
    | some _ => if plain (e.eval x) then some (.iface t (e.eval x), A) else none
    | none => none
  | .typeAssert x _ d true => match tKind P d, tZero P d, e.eval x with
    | some .struct, some z, .iface t v => some (if t = d then .tuple #[v, .bool true] else .tuple #[z, .bool false], A)
    | _, _, _ => none
  | .makeFunc fn first captured => some (.func fn (first.map e.eval) (captured.map e.eval), A)
  | .makeMap _ none => some (.map (some nx), A.newAt nx (.map []))
  | .makeSlice t l c => aMakeSlice P nx A t (e.eval l) (e.eval c)
  | .slice t x lo hi mx => (aSlice P A t (e.eval x) (lo.map e.eval) (hi.map e.eval) (mx.map e.eval)).map fun v => (v, A)
  | .fieldAddr t x f => match tField P t f, e.eval x with
    | some (off, _), .pointer (some a) => some (.pointer (some (a.add off)), A)
    | _, _ => none
  | .field t x f => match tField P t f, e.eval x with
    | some (off, ft), .agg cs => match tAgg P ft, tSize P ft with
      | some true, some n => if off + n ≤ cs.size then some (.agg ((cs.toList.drop off).take n).toArray, A) else none
      | some false, _ => (cs.toList[off]?).map fun v => (v, A)
      | _, _ => none
    | _, _ => none
  | .indexAddr t x i => (aIndexAddr P t (e.eval x) (e.eval i)).map fun v => (v, A)
  | .index t x i => (aIndex P t (e.eval x) (e.eval i)).map fun v => (v, A)
  | .lookup t m k ok => (aLookup P A t (e.eval m) (e.eval k) ok).map fun v => (v, A)
  | .mapUpdate t m k v => (aMapSet P ro A t (e.eval m) (e.eval k) (e.eval v)).map fun A' => (undef, A')
  | .extract x i => match e.eval x with
    | .tuple vs => (vs.toList[i]?).map fun v => (v, A)
    | _ => none
  | .call c => match c.callee with
    | .builtin .len => match c.argTypes.toList, c.args.toList with
      | [t], [x] => (aLen P A t (e.eval x)).map fun v => (v, A)
      | _, _ => none
    | .builtin .append => match c.argTypes.toList, c.args.toList with
      | [t, t2], [s, x] => match tKind P t2 with
        | some .slice | some .str => aAppend P ro A t (e.eval s) (e.eval x)
        | _ => none
      | _, _ => none
    | .builtin .min => (aMin (c.args.toList.map e.eval)).map fun v => (v, A)
    | _ => none
  | _ => none
/-- Of a call of a function value: the function, its arguments. -/
def aTarget (e : Env) : Op → Option (FuncId × List Value)
  | .call c => match c.callee with
    | .value f => match e.eval f with
      | .func (.func g) first captured => some (g, first.toList ++ c.args.toList.map e.eval ++ captured.toList)
      | _ => none
    | _ => none
  | _ => none
end Go.AM
