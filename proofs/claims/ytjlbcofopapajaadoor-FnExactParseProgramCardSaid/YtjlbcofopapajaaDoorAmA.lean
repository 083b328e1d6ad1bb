import Derived.Orders
import Derived.Below
import Derived.KernelRfl
import Derived.IntWalk
import Derived.Laws.Strings
namespace Go.AM
open Go
inductive AObj where
 | dead
 | cells (c : List Value) (e : Nat)
 | map (es : List (Value × Value))
structure AH where
 get : Nat → AObj
 size : Nat
def AH.new (A : AH) (o : AObj) : AH := ⟨fun b => if b = A.size then o else A.get b, A.size + 1⟩
def AH.newAt (A : AH) (n : Nat) (o : AObj) : AH := ⟨fun b => if b = n then o else A.get b, max A.size (n + 1)⟩
theorem AH.newAt_self (A : AH) (o : AObj) : A.newAt A.size o = A.new o := by
 have : max A.size (A.size + 1) = A.size + 1 := by omega
 simp only [AH.newAt, AH.new, this]
def AH.put (A : AH) (b : Nat) (o : AObj) : AH := ⟨fun b' => if b' = b then o else A.get b', A.size⟩
abbrev Env := Nat → Value
def Env.put (e : Env) (d : Option Nat) (v : Value) : Env := fun t => if d = some t then v else e t
def Env.eval (e : Env) : Operand → Value
 | .tmp t => e t
 | .const v => v
 | .global g => .pointer (some ⟨g, 0, none⟩)
 | .func f => .func (.func f) #[] #[]
def Env.enter (args : List Value) : Env := fun t => args.getD t undef
def BIG : Nat := 4611686018427387904
def LIM : Nat := 4294967296
def TAG : Nat := 1099511627776
def esz (e : Nat) : Nat := if e < TAG then e else 1
def isBld : List Value → Bool
 | [.pointer none, .slice none 0 0] => true
 | _ => false
def allocE (t : TypeId) (n : Nat) : Bool → Nat
 | true => 1099511627777 + 2 * t
 | false => n % 1099511627776
def acells : Value → Option (List Value)
 | .agg cs => some cs.toList
 | .tuple _ => none
 | v => some [v]
def ground1 : Value → Bool
 | .bool _ | .int _ _ | .string _ | .pointer none | .slice none 0 0 | .map none | .nilFunc | .nilIface => true
 | _ => false
def ground : Value → Bool
 | .agg cs => cs.toList.all ground1
 | v => ground1 v
def tSize (P : Program) (t : TypeId) : Option Nat := (P.info? t).map (·.size)
def tZero (P : Program) (t : TypeId) : Option Value :=
 match (P.info? t).bind (·.zero) with
 | some z => if ground z then some z else none
 | none => none
def tAgg (P : Program) (t : TypeId) : Option Bool :=
 (P.underlying t).map fun | .struct _ | .array _ _ => true | _ => false
def tElem (P : Program) (t : TypeId) : Option TypeId :=
 match P.underlying t with
 | some (.slice e) => some e
 | _ => none
def tElemSize (P : Program) (t : TypeId) : Option Nat :=
 match tElem P t with
 | some e => match P.info? e, (tZero P e).bind acells with
   | some i, some z => if i.bytes ≤ 4096 ∧ z.length = i.size ∧ i.size ≤ 4096 then some i.size else none
   | _, _ => none
 | none => none
def tField (P : Program) (t : TypeId) (f : Nat) : Option (Nat × TypeId) :=
 match P.underlying t with
 | some (.struct fs) => match fs[f]? with
   | some x => if (tSize P x.type).getD 0 = 0 then none else some (x.offset, x.type)
   | none => none
 | _ => none
def tPlaces (P : Program) (t : TypeId) : Option (List (Nat × Nat)) :=
 match P.underlying t with
 | some (.struct fs) => fs.toList.mapM fun f => (tSize P f.type).map fun n => (f.offset, n)
 | _ => none
def tArray (P : Program) (t : TypeId) : Option (Nat × TypeId × Nat) :=
 match P.underlying t with
 | some (.array n e) => (tSize P e).map fun s => (n, e, s)
 | _ => none
inductive Kind where
 | int (k : IntKind) | str | bool | ptr | slice | map | func | iface | struct | other
 deriving DecidableEq
def tKind (P : Program) (t : TypeId) : Option Kind :=
 (P.underlying t).map fun
  | .int k => .int k | .string => .str | .bool => .bool | .pointer _ => .ptr | .slice _ => .slice | .map _ _ => .map | .func _ _ _ => .func
  | .interface _ => .iface | .struct _ => .struct | _ => .other
def tBytes (P : Program) (t : TypeId) : Bool :=
 match tElem P t with
 | some e => tKind P e == some (.int .u8)
 | none => false
def tMap (P : Program) (t : TypeId) : Option (Kind × TypeId) :=
 match P.underlying t with
 | some (.map k e) => (tKind P k).map fun q => (q, e)
 | _ => none
def aCell (A : AH) (a : Addr) : Option Value :=
 match a.spot, A.get a.block with
 | none, .cells c _ => c[a.off]?
 | _, _ => none
def aRow (A : AH) (a : Addr) (n : Nat) : Option (List Value) :=
 match a.spot, A.get a.block with
 | none, .cells c _ => if a.off + n ≤ c.length then some ((c.drop a.off).take n) else none
 | _, _ => none
def setCells (c : List Value) (o : Nat) : List Value → List Value
 | [] => c
 | v :: vs => setCells (c.set o v) (o + 1) vs
def aLoad (P : Program) (A : AH) (t : TypeId) (a : Addr) : Option Value :=
 match tAgg P t with
 | some true => match tSize P t with
   | some n => (aRow A a n).map fun cs => .agg cs.toArray
   | none => none
 | some false => aCell A a
 | none => none
def aStore (P : Program) (ro : Nat) (A : AH) (t : TypeId) (a : Addr) (v : Value) : Option AH :=
 match a.spot, A.get a.block, acells v, tSize P t with
 | none, .cells c e, some vs, some n =>
   if vs.length = n ∧ ro ≤ a.block ∧ a.off + n ≤ c.length then some (A.put a.block (.cells (setCells c a.off vs) e)) else none
 | _, _, _, _ => none
def aFill (places : List (Nat × Nat)) (cells : List Value) : List (Nat × Value) → Option (List Value)
 | [] => some cells
 | (i, v) :: rest =>
   match places[i]?, acells v with
   | some (off, size), some vs => if vs.length = size ∧ off + size ≤ cells.length then aFill places (setCells cells off vs) rest else none
   | _, _ => none
def aEqFields (P : Program) (xs ys : List Value) : List Field → Option Bool
 | [] => some true
 | f :: fs =>
   if f.name = "_" then none else
   match tKind P f.type, xs[f.offset]?, ys[f.offset]? with
   | some (.int _), some (.int k a), some (.int k' b) => if k = k' then (if a = b then aEqFields P xs ys fs else some false) else none
   | some .str, some (.string a), some (.string b) => if a.toList = b.toList then aEqFields P xs ys fs else some false
   | some .bool, some (.bool a), some (.bool b) => if a = b then aEqFields P xs ys fs else some false
   | _, _, _ => none
def aEq (P : Program) (t : TypeId) (x y : Value) : Option Bool :=
 match tKind P t, x, y with
 | some .bool, .bool a, .bool b => some (a == b)
 | some .ptr, .pointer none, .pointer b => some b.isNone
 | some .ptr, .pointer (some _), .pointer none => some false
 | some .slice, .slice none _ _, .slice b _ _ => some b.isNone
 | some .slice, .slice (some _) _ _, .slice none _ _ => some false
 | some .map, .map none, .map b => some b.isNone
 | some .map, .map (some _), .map none => some false
 | some .func, .nilFunc, .nilFunc => some true
 | some .func, .nilFunc, .func _ _ _ => some false
 | some .func, .func _ _ _, .nilFunc => some false
 | some .iface, .nilIface, .iface _ _ => some false
 | some .iface, .iface _ _, .nilIface => some false
 | some .struct, .agg xs, .agg ys =>
   match P.underlying t with
   | some (.struct fs) => if P.stoodInHeld t || P.eqGuardType P.depth t then none else aEqFields P xs.toList ys.toList fs.toList
   | _ => none
 | _, _, _ => none
def aInt (op : BinOp) (k : IntKind) (a b : Int) : Option Value :=
 match op with
 | .add => some (.int k (k.wrap (a + b)))
 | .sub => some (.int k (k.wrap (a - b)))
 | .mul => some (.int k (k.wrap (a * b)))
 | .quo => if b = 0 then none else some (.int k (k.wrap (a.tdiv b)))
 | .rem => if b = 0 then none else some (.int k (a.tmod b))
 | .and => some (.int k (k.wrap (BitVec.ofInt k.bits a &&& BitVec.ofInt k.bits b).toNat))
 | .or => some (.int k (k.wrap (BitVec.ofInt k.bits a ||| BitVec.ofInt k.bits b).toNat))
 | .xor => some (.int k (k.wrap (BitVec.ofInt k.bits a ^^^ BitVec.ofInt k.bits b).toNat))
 | .eql => some (.bool (a == b))
 | .neq => some (.bool (a != b))
 | .lss => some (.bool (decide (a < b)))
 | .leq => some (.bool (decide (a ≤ b)))
 | .gtr => some (.bool (decide (a > b)))
 | .geq => some (.bool (decide (a ≥ b)))
 | _ => none
def aStr (op : BinOp) (a b : ByteArray) : Option Value :=
 match op with
 | .add => if a.size + b.size < BIG then some (.string (a ++ b)) else none
 | .eql => some (.bool (a.toList == b.toList))
 | .neq => some (.bool (!(a.toList == b.toList)))
 | .lss => some (.bool (Op.bytesLess a.toList b.toList))
 | .leq => some (.bool (Op.bytesLess a.toList b.toList || a.toList == b.toList))
 | .gtr => some (.bool (!(Op.bytesLess a.toList b.toList || a.toList == b.toList)))
 | .geq => some (.bool (!(Op.bytesLess a.toList b.toList)))
 | _ => none
def aBin (P : Program) (op : BinOp) (t : TypeId) (x y : Value) : Option Value :=
 match x, y with
 | .int k a, .int k' b =>
   match op with
   | .shl => if b < 0 then none else some (.int k (k.wrap (a * 2 ^ (min b.toNat k.bits))))
   | .shr => if b < 0 then none else some (.int k (a.fdiv (2 ^ (min b.toNat k.bits))))
   | _ => if k = k' then aInt op k a b else none
 | .string a, .string b => aStr op a b
 | _, _ =>
   match op with
   | .eql => (aEq P t x y).map .bool
   | .neq => (aEq P t x y).map fun b => .bool (!b)
   | _ => none
def litNil : Operand → Operand → Bool
 | .const _, _ => true
 | _, .const _ => true
 | _, _ => false
def nilCmp : BinOp → Option Kind → Option Value
 | .eql, some .iface => some (.bool true)
 | .neq, some .iface => some (.bool false)
 | _, _ => none
def aBinN (P : Program) (op : BinOp) (t : TypeId) (c : Bool) (x y : Value) : Option Value :=
 match x, y with
 | .nilIface, .nilIface => if c then nilCmp op (tKind P t) else none
 | _, _ => aBin P op t x y
def aUn (op : UnOp) (x : Value) : Option Value :=
 match op, x with
 | .not, .bool b => some (.bool (!b))
 | .neg, .int k n => some (.int k (k.wrap (0 - n)))
 | _, _ => none
def bytesOf (s : ByteArray) : List Value := s.data.toList.map fun b => .int .u8 b.toNat
def strOf : List Value → Option (List UInt8)
 | [] => some []
 | .int .u8 n :: r => (strOf r).map fun l => UInt8.ofNat n.toNat :: l
 | _ => none
def aBound : Option Value → Nat → Option Nat
 | none, d => some d
 | some (.int _ i), _ => if 0 ≤ i then some i.toNat else none
 | _, _ => none
def aSlice (P : Program) (A : AH) (t : TypeId) (x : Value) (lo hi mx : Option Value) : Option Value :=
 match x with
 | .string s =>
   match tKind P t, aBound lo 0, aBound hi s.size, mx with
   | some .str, some l, some h, none => if l ≤ h ∧ h ≤ s.size then some (.string (s.extract l h)) else none
   | _, _, _, _ => none
 | .slice a len cap =>
   match tElemSize P t, aBound lo 0, aBound hi len with
   | some sz, some l, some h =>
     if l ≤ h ∧ h ≤ len then
      match mx with
      | none =>
        if cap < BIG then some (.slice (if cap = l then a else a.map (·.add (l * sz))) (h - l) (cap - l))
        else match a with
         | some p => match A.get p.block with
           | .cells _ e => if cap = BIG ∧ e = sz then some (.slice (some (p.add (l * sz))) (h - l) BIG) else none
           | _ => none
         | none => none
      | some v => match hi, aBound (some v) 0 with
        | some _, some m => if h ≤ m ∧ m ≤ len ∧ m < BIG then some (.slice (if m = l then a else a.map (·.add (l * sz))) (h - l) (m - l)) else none
        | _, _ => none
     else none
   | _, _, _ => none
 | .pointer (some p) =>
   match tArray P t, aBound lo 0, mx with
   | some (n, _, sz), some l, none => match aBound hi n with
     | some h => if l ≤ h ∧ h ≤ n ∧ n < BIG then some (.slice (some (if n = l then p else p.add (l * sz))) (h - l) (n - l)) else none
     | none => none
   | _, _, _ => none
 | _ => none
def aIndexAddr (P : Program) (t : TypeId) (x i : Value) : Option Value :=
 match x, i with
 | .slice (some a) len _, .int _ i =>
   match tElemSize P t with
   | some sz => if 0 ≤ i ∧ i < len then some (.pointer (some (a.add (i.toNat * sz)))) else none
   | none => none
 | .pointer (some a), .int _ i =>
   match tArray P t with
   | some (n, _, sz) => if 0 ≤ i ∧ i < n then some (.pointer (some (a.add (i.toNat * sz)))) else none
   | none => none
 | _, _ => none
def aIndex (P : Program) (t : TypeId) (x i : Value) : Option Value :=
 match x, i with
 | .string s, .int _ i =>
   match tKind P t with
   | some .str => if 0 ≤ i then (s.data[i.toNat]?).map fun b => .int .u8 b.toNat else none
   | _ => none
 | .agg cs, .int _ i =>
   match tArray P t with
   | some (n, e, 1) => if tAgg P e = some false ∧ 0 ≤ i ∧ i < n then cs.toList[i.toNat]? else none
   | _ => none
 | _, _ => none
def aSource (A : AH) (sz : Nat) : Value → Option (Nat × List Value)
 | .slice none 0 _ => some (0, [])
 | .slice (some b) n _ => if n = 0 then some (0, []) else (aRow A b (n * sz)).map fun cs => (n, cs)
 | .string s => if sz = 1 then some (s.size, bytesOf s) else none
 | _ => none
def appE (P : Program) (t : TypeId) (sz : Nat) : Value → Nat
 | .string _ => match tElem P t with
   | some el => 1099511627776 + 2 * el
   | none => sz
 | _ => sz
def tagHere (P : Program) (t : TypeId) (sz : Nat) (a : Addr) (e : Nat) : Prop := sz = 1 ∧ a.off = 0 ∧ (tElem P t).map (fun el => 1099511627776 + 2 * el) = some e
instance (P : Program) (t : TypeId) (sz : Nat) (a : Addr) (e : Nat) : Decidable (tagHere P t sz a e) := by unfold tagHere; infer_instance
def aAppend (P : Program) (ro : Nat) (A : AH) (t : TypeId) (s x : Value) : Option (Value × AH) :=
 match tElemSize P t, s with
 | some sz, .slice base len cap =>
   match aSource A sz x with
   | some (n, new) =>
     if len + n < LIM then
      match base with
      | none => if len ≠ 0 ∨ cap ≠ 0 then none else if n = 0 then some (.slice none 0 0, A) else some (.slice (some ⟨A.size, 0, none⟩) n BIG, A.new (.cells new (appE P t sz x)))
      | some a =>
        if cap < BIG then
         if n = 0 ∧ len ≤ cap then some (s, A)
         else if len + n ≤ cap then
          match a.spot, A.get a.block with
          | none, .cells c e => if ro ≤ a.block ∧ a.off + len * sz + n * sz ≤ c.length then some (.slice (some a) (len + n) cap, A.put a.block (.cells (setCells c (a.off + len * sz) new) e)) else none
          | _, _ => none
         else if len = 0 then some (.slice (some ⟨A.size, 0, none⟩) n BIG, A.new (.cells new sz))
         else match aRow A a (len * sz) with
          | some old => some (.slice (some ⟨A.size, 0, none⟩) (len + n) BIG, A.new (.cells (old ++ new) sz))
          | none => none
        else if cap = BIG ∧ ro ≤ a.block then
         match aRow A a (len * sz), A.get a.block with
         | some old, .cells _ e => if e = sz ∨ tagHere P t sz a e then some (.slice (some ⟨A.size, 0, none⟩) (len + n) BIG, (A.put a.block .dead).new (.cells (old ++ new) e)) else none
         | _, _ => none
        else none
     else none
   | none => none
 | _, _ => none
def aKeyEq : Kind → Value → Value → Option Bool
 | .int _, .int k a, .int k' b => if k = k' then some (decide (a = b)) else none
 | .str, .string a, .string b => some (decide (a.toList = b.toList))
 | .bool, .bool a, .bool b => some (a == b)
 | _, _, _ => none
def aFind (q : Kind) (k : Value) : List (Value × Value) → Option (Option Value)
 | [] => some none
 | (k', v) :: r => match aKeyEq q k k' with
   | some true => some (some v)
   | some false => aFind q k r
   | none => none
def aSet (q : Kind) (k v : Value) : List (Value × Value) → Option (List (Value × Value))
 | [] => some [(k, v)]
 | (k', v') :: r => match aKeyEq q k k' with
   | some true => some ((k, v) :: r)
   | some false => (aSet q k v r).map ((k', v') :: ·)
   | none => none
def aKeyOk : Kind → Value → Bool
 | .int _, .int _ _ => true
 | .str, .string _ => true
 | .bool, .bool _ => true
 | _, _ => false
def aEntries (A : AH) : Value → Option (List (Value × Value))
 | .map none => some []
 | .map (some r) => match A.get r with
   | .map es => some es
   | _ => none
 | _ => none
def aLookup (P : Program) (A : AH) (t : TypeId) (m k : Value) (ok : Bool) : Option Value :=
 match tMap P t with
 | some (q, e) =>
   match aEntries A m with
   | some es =>
     if aKeyOk q k then
      match aFind q k es with
      | some (some v) => some (if ok then .tuple #[v, .bool true] else v)
      | some none => match tZero P e with
        | some z => some (if ok then .tuple #[z, .bool false] else z)
        | none => none
      | none => none
     else none
   | none => none
 | none => none
def aMapSet (P : Program) (ro : Nat) (A : AH) (t : TypeId) (m k v : Value) : Option AH :=
 match tMap P t, m with
 | some (q, _), .map (some r) =>
   match A.get r, acells v with
   | .map es, some _ => if ro ≤ r ∧ aKeyOk q k then (aSet q k v es).map fun es' => A.put r (.map es') else none
   | _, _ => none
 | _, _ => none
def aLen (P : Program) (A : AH) (t : TypeId) (x : Value) : Option Value :=
 match x, tKind P t with
 | .string s, some .str => some (.int .i64 s.size)
 | .slice _ n _, some .slice => some (.int .i64 n)
 | .map none, some .map => some (.int .i64 0)
 | .map (some r), some .map => match A.get r with | .map es => some (.int .i64 es.length) | _ => none
 | _, _ => none
def aMin : List Value → Option Value
 | [.int k a, .int k' b] => if k = k' then some (.int k (if b < a then b else a)) else none
 | _ => none
def aConvert (P : Program) (nx : Nat) (A : AH) (src dst : TypeId) (x : Value) : Option (Value × AH) :=
 match tKind P src, tKind P dst, x with
 | some (.int _), some (.int k), .int _ n => some (.int k (k.wrap n), A)
 | some .str, some .str, .string s => some (.string s, A)
 | some .str, some .slice, .string s => if tBytes P dst then some (.slice (some ⟨nx, 0, none⟩) s.size BIG, A.newAt nx (.cells (bytesOf s) 1)) else none
 | some .slice, some .str, .slice none _ _ => if tBytes P src then some (.string .empty, A) else none
 | some .slice, some .str, .slice (some a) n _ =>
   if tBytes P src then
    if n = 0 then some (.string .empty, A) else
    match aRow A a n with
    | some cs => (strOf cs).map fun l => (.string ⟨l.toArray⟩, A)
    | none => none
   else none
 | _, _, _ => none
def aMakeSlice (P : Program) (nx : Nat) (A : AH) (t : TypeId) (l c : Value) : Option (Value × AH) :=
 match tElem P t, tElemSize P t, l, c with
 | some e, some sz, .int _ l, .int _ c =>
   match (tZero P e).bind acells with
   | some z => if 0 ≤ l ∧ l = c ∧ l < LIM ∧ z.length = sz then some (.slice (some ⟨nx, 0, none⟩) l.toNat l.toNat, A.newAt nx (.cells (List.replicate l.toNat z).flatten sz)) else none
   | none => none
 | _, _, _, _ => none
def plain (v : Value) : Bool := (acells v).isSome
def aOp (P : Program) (ro nx : Nat) (op : Op) (e : Env) (A : AH) : Option (Value × AH) :=
 match op with
 | .move x | .assign x => some (e.eval x, A)
 | .pick c a b => match e.eval c with
   | .bool t => some (if t then e.eval a else e.eval b, A)
   | _ => none
 | .alloc t => match (tZero P t).bind acells, tSize P t with
   | some z, some n => some (.pointer (some ⟨nx, 0, none⟩), A.newAt nx (.cells z (allocE t n (isBld z))))
   | _, _ => none
 | .box t x => match acells (e.eval x), tSize P t with
   | some vs, some n => some (.pointer (some ⟨nx, 0, none⟩), A.newAt nx (.cells vs (n % 1099511627776)))
   | _, _ => none
 | .build t parts => match tPlaces P t, (tZero P t).bind acells with
   | some ps, some z => (aFill ps z (parts.toList.map fun x => (x.1, e.eval x.2))).map fun cs => (.agg cs.toArray, A)
   | _, _ => none
 | .buildSlice t len parts => match tElem P t, tElemSize P t with
   | some el, some sz => match (tZero P el).bind acells with
     | some z =>
       if len * sz ≤ 16777216 ∧ z.length = sz ∧ len ≤ 16777216 then
        (aFill ((List.range len).map fun i => (i * sz, sz)) (List.replicate len z).flatten (parts.toList.map fun x => (x.1, e.eval x.2))).map fun cs =>
         (.slice (some ⟨nx, 0, none⟩) len len, A.newAt nx (.cells cs sz))
       else none
     | none => none
   | _, _ => none
 | .load t x => match e.eval x with
   | .pointer (some a) => (aLoad P A t a).map fun v => (v, A)
   | _ => none
 | .store t x v => match e.eval x with
   | .pointer (some a) => (aStore P ro A t a (e.eval v)).map fun A' => (undef, A')
   | _ => none
 | .nilCheck x => match e.eval x with
   | .pointer (some a) => some (.pointer (some a), A)
   | .func (.func f) x y => some (.func (.func f) x y, A)
   | _ => none
 | .binOp op t x y _ => (aBinN P op t (litNil x y) (e.eval x) (e.eval y)).map fun v => (v, A)
 | .unOp op _ x => (aUn op (e.eval x)).map fun v => (v, A)
 | .convert s d x => aConvert P nx A s d (e.eval x)
 | .makeInterface t x => match tKind P t with
   | some .iface => none
   | some _ => if plain (e.eval x) then some (.iface t (e.eval x), A) else none
   | none => none
 | .typeAssert x _ d true => match tKind P d, tZero P d, e.eval x with
   | some .struct, some z, .iface t v => some (if t = d then .tuple #[v, .bool true] else .tuple #[z, .bool false], A)
   | _, _, _ => none
 | .makeFunc fn first captured => some (.func fn (first.map e.eval) (captured.map e.eval), A)
 | .makeMap _ none => some (.map (some nx), A.newAt nx (.map []))
 | .makeSlice t l c => aMakeSlice P nx A t (e.eval l) (e.eval c)
 | .slice t x lo hi mx => (aSlice P A t (e.eval x) (lo.map e.eval) (hi.map e.eval) (mx.map e.eval)).map fun v => (v, A)
 | .fieldAddr t x f => match tField P t f, e.eval x with
   | some (off, _), .pointer (some a) => some (.pointer (some (a.add off)), A)
   | _, _ => none
 | .field t x f => match tField P t f, e.eval x with
   | some (off, ft), .agg cs => match tAgg P ft, tSize P ft with
     | some true, some n => if off + n ≤ cs.size then some (.agg ((cs.toList.drop off).take n).toArray, A) else none
     | some false, _ => (cs.toList[off]?).map fun v => (v, A)
     | _, _ => none
   | _, _ => none
 | .indexAddr t x i => (aIndexAddr P t (e.eval x) (e.eval i)).map fun v => (v, A)
 | .index t x i => (aIndex P t (e.eval x) (e.eval i)).map fun v => (v, A)
 | .lookup t m k ok => (aLookup P A t (e.eval m) (e.eval k) ok).map fun v => (v, A)
 | .mapUpdate t m k v => (aMapSet P ro A t (e.eval m) (e.eval k) (e.eval v)).map fun A' => (undef, A')
 | .extract x i => match e.eval x with
   | .tuple vs => (vs.toList[i]?).map fun v => (v, A)
   | _ => none
 | .call c => match c.callee with
   | .builtin .len => match c.argTypes.toList, c.args.toList with
     | [t], [x] => (aLen P A t (e.eval x)).map fun v => (v, A)
     | _, _ => none
   | .builtin .append => match c.argTypes.toList, c.args.toList with
     | [t, t2], [s, x] => match tKind P t2 with
       | some .slice | some .str => aAppend P ro A t (e.eval s) (e.eval x)
       | _ => none
     | _, _ => none
   | .builtin .min => (aMin (c.args.toList.map e.eval)).map fun v => (v, A)
   | _ => none
 | _ => none
def aTarget (e : Env) : Op → Option (FuncId × List Value)
 | .call c => match c.callee with
   | .value f => match e.eval f with
     | .func (.func g) first captured => some (g, first.toList ++ c.args.toList.map e.eval ++ captured.toList)
     | _ => none
   | _ => none
 | _ => none
end Go.AM
namespace Go.AM
open Go
inductive AExit where
 | normal | exit (id : Nat) | ret | pan (v : Value)
inductive ARes where
 | ret (v : Value) | pan (v : Value)
inductive Judg where
 | code (c : Code) (e : Env)
 | ops (ops : Array Oper) (D : Option (Nat → Prop)) (l : List Nat) (e : Env)
 | call (f : FuncId) (args : List Value)
inductive Out where
 | code (x : AExit) (e : Env)
 | call (r : ARes)
def aWanted (ops : Array Oper) (o : Oper) (e : Env) : Bool :=
 match o.guard with
 | none => true
 | some (j, want) => match (ops[j]?).bind (·.dst) with
   | some d => match e d with
     | .bool b => b == want
     | _ => false
   | none => false
def aResVals (P : Program) (A : AH) (e : Env) : List ResultVar → Option (List Value)
 | [] => some []
 | .tmp t :: r => (aResVals P A e r).map (e t :: ·)
 | .cell a t :: r => match e a with
   | .pointer (some p) => match aLoad P A t p with
     | some v => (aResVals P A e r).map (v :: ·)
     | none => none
   | _ => none
def aTup : List Value → Value
 | [v] => v
 | vs => .tuple vs.toArray
def aResults (P : Program) (A : AH) (e : Env) (fn : Func) : Option Value := (aResVals P A e fn.results.toList).map aTup
def opdOk (ng : Nat) : Operand → Bool
 | .tmp _ => true
 | .const v => ground1 v
 | .global g => decide (g < ng)
 | .func _ => true
def dstOk (n ng : Nat) (o : Oper) : Bool := (match o.dst with | some d => decide (d < n) | none => true) && o.op.operands.toList.all (opdOk ng)
def dstsOk (n ng : Nat) : Code → Bool
 | .region _ ops _ => ops.toList.all (dstOk n ng)
 | .seq a b => dstsOk n ng a && dstsOk n ng b
 | .cond c a b => opdOk ng c && dstsOk n ng a && dstsOk n ng b
 | .block _ a => dstsOk n ng a
 | .loop a => dstsOk n ng a
 | _ => true
def isEff : Op → Bool
 | .store _ _ _ | .mapUpdate _ _ _ _ => true
 | .call c => match c.callee with
   | .builtin .len | .builtin .min => false
   | _ => true
 | _ => false
def isNew : Op → Bool
 | .alloc _ | .box _ _ | .buildSlice _ _ _ | .makeMap _ _ | .makeSlice _ _ _ | .convert _ _ _ => true
 | _ => false
def isRead : Op → Bool
 | .load _ _ | .convert _ _ _ | .lookup _ _ _ _ | .slice _ _ _ _ _ => true
 | .call c => match c.callee with
   | .builtin .len => true
   | _ => false
 | _ => false
def readsAt (e : Env) : Op → Option Nat
 | .load _ x => match e.eval x with | .pointer (some a) => some a.block | _ => none
 | .convert _ _ x => match e.eval x with | .slice (some a) n _ => if n = 0 then none else some a.block | _ => none
 | .slice _ x _ _ _ => match e.eval x with | .slice (some a) _ c => if c < BIG then none else some a.block | _ => none
 | .lookup _ m _ _ => match e.eval m with | .map (some r) => some r | _ => none
 | .call c => match c.callee, c.args.toList with
   | .builtin .len, [x] => match e.eval x with | .map (some r) => some r | _ => none
   | _, _ => none
 | _ => none
def bitAt (b : Array Nat) (j i : Nat) : Bool := (b.getD j 0).testBit i
def opAt (ops : Array Oper) (i : Nat) : Op := match ops[i]? with | some o => o.op | none => .move (.tmp 0)
def freeReads (ops : Array Oper) (j : Nat) : Bool :=
 let b := Region.before ops
 (List.range ops.size).any fun i => isRead (opAt ops i) && i != j && !bitAt b j i && !bitAt b i j
def opTmps (ops : Array Oper) (o : Oper) : List Nat :=
 o.dst.toList ++ o.op.operands.toList.filterMap (fun | .tmp t => some t | _ => none) ++
 (match o.guard with | some (g, _) => ((ops[g]?).bind (·.dst)).toList | none => [])
def clash (ops : Array Oper) (x y : Oper) : Bool :=
 (match x.dst with | some d => (opTmps ops y).contains d | none => false) || (match y.dst with | some d => (opTmps ops x).contains d | none => false)
def drawOk (ops : Array Oper) : Bool :=
 let b := Region.before ops
 let n := ops.size
 (List.range n).all fun j => match ops[j]? with
  | none => false
  | some o =>
    o.after.toList.all (fun ed => !Region.binds .any ed || decide (ed.on < j)) &&
    (List.range j).all fun i => match ops[i]? with
     | none => false
     | some o' => bitAt b j i || (!(isEff o.op && (isEff o'.op || isNew o'.op)) && !clash ops o' o)
def allWait (ops : Array Oper) (j : Nat) : Bool :=
 let b := Region.before ops
 (List.range ops.size).all fun i => decide (i ≤ j) || bitAt b i j
def Held (ops : Array Oper) (D : Option (Nat → Prop)) (i : Nat) (op : Op) (e : Env) (A A' : AH) : Prop :=
 ∀ S, D = some S → (∀ b, isEff op = false → readsAt e op = some b → S b) ∧ (isEff op = true → freeReads ops i = true → ∀ b, b < A.size → S b → A'.get b = A.get b)
inductive Big (P : Program) (ro : Nat) (X : FuncId → List Value → AH → ARes → AH → Prop) : Judg → AH → Out → AH → Prop
 | skip {e A} : Big P ro X (.code .skip e) A (.code .normal e) A
 | seq {a b e e' A A' o A''} (h : Big P ro X (.code a e) A (.code .normal e') A') (k : Big P ro X (.code b e') A' o A'') : Big P ro X (.code (.seq a b) e) A o A''
 | seqx {a b e e' A A' x} (h : Big P ro X (.code a e) A (.code x e') A') (hx : x ≠ .normal) : Big P ro X (.code (.seq a b) e) A (.code x e') A'
 | cond {c a b e A t o A'} (hc : e.eval c = .bool t) (h : Big P ro X (.code (if t then a else b) e) A o A') : Big P ro X (.code (.cond c a b) e) A o A'
 | block {id a e A e' A'} (h : Big P ro X (.code a e) A (.code (.exit id) e') A') : Big P ro X (.code (.block id a) e) A (.code .normal e') A'
 | blockx {id a e A x e' A'} (h : Big P ro X (.code a e) A (.code x e') A') (hx : x ≠ .exit id) : Big P ro X (.code (.block id a) e) A (.code x e') A'
 | loop {a e A e' A' o A''} (h : Big P ro X (.code a e) A (.code .normal e') A') (k : Big P ro X (.code (.loop a) e') A' o A'') : Big P ro X (.code (.loop a) e) A o A''
 | loopx {a e A x e' A'} (h : Big P ro X (.code a e) A (.code x e') A') (hx : x ≠ .normal) : Big P ro X (.code (.loop a) e) A (.code x e') A'
 | exit {id e A} : Big P ro X (.code (.exit id) e) A (.code (.exit id) e) A
 | ret {e A} : Big P ro X (.code .ret e) A (.code .ret e) A
 | region {id ops e A o A'} (h : Big P ro X (.ops ops none (List.range ops.size) e) A o A') : Big P ro X (.code (.region id ops false) e) A o A'
 | drawn {id ops e A o A'} (S : Nat → Prop) (hk : drawOk ops = true) (h : Big P ro X (.ops ops (some S) (List.range ops.size) e) A o A') :
  Big P ro X (.code (.region id ops true) e) A o A'
 | nil {ops D e A} : Big P ro X (.ops ops D [] e) A (.code .normal e) A
 | pass {ops D i l e A o r A'} (ho : ops[i]? = some o) (hw : aWanted ops o e = false) (k : Big P ro X (.ops ops D l (e.put o.dst undef)) A r A') :
  Big P ro X (.ops ops D (i :: l) e) A r A'
 | op {ops D i l e A o v A1 r A'} (ho : ops[i]? = some o) (hw : aWanted ops o e = true) (hv : aOp P ro A.size o.op e A = some (v, A1)) (hd : Held ops D i o.op e A A1)
  (k : Big P ro X (.ops ops D l (e.put o.dst v)) A1 r A') : Big P ro X (.ops ops D (i :: l) e) A r A'
 | call {ops D i l e A o f args v A1 r A'} (ho : ops[i]? = some o) (hw : aWanted ops o e = true) (ht : aTarget e o.op = some (f, args))
  (hv : Big P ro X (.call f args) A (.call (.ret v)) A1) (hd : Held ops D i o.op e A A1) (k : Big P ro X (.ops ops D l (e.put o.dst v)) A1 r A') :
  Big P ro X (.ops ops D (i :: l) e) A r A'
 | callp {ops D i l e A o f args v A1} (ho : ops[i]? = some o) (hw : aWanted ops o e = true) (ht : aTarget e o.op = some (f, args))
  (hv : Big P ro X (.call f args) A (.call (.pan v)) A1) (hd : D.isSome = true → allWait ops i = true) : Big P ro X (.ops ops D (i :: l) e) A (.code (.pan v) e) A1
 | panic {ops i l e A o x t v} (ho : ops[i]? = some o) (hw : aWanted ops o e = true) (hx : o.op = .panic x) (hv : e.eval x = .iface t v) :
  Big P ro X (.ops ops none (i :: l) e) A (.code (.pan (.iface t v)) e) A
 | func {f args fn c e' x A A' v} (hf : P.funcs[f]? = some fn) (hb : fn.body = some c) (hnm : (fn.name == "runtime.NumGoroutine") = false) (hd : dstsOk fn.ntmps P.globals.size c = true) (ha : args.length ≤ fn.ntmps)
  (h : Big P ro X (.code c (Env.enter args)) A (.code x e') A') (hx : x = .ret ∨ x = .normal) (hr : aResults P A' e' fn = some v) :
  Big P ro X (.call f args) A (.call (.ret v)) A'
 | funcp {f args fn c e' A A' v} (hf : P.funcs[f]? = some fn) (hb : fn.body = some c) (hnm : (fn.name == "runtime.NumGoroutine") = false) (hd : dstsOk fn.ntmps P.globals.size c = true) (ha : args.length ≤ fn.ntmps)
  (h : Big P ro X (.code c (Env.enter args)) A (.code (.pan v) e') A') : Big P ro X (.call f args) A (.call (.pan v)) A'
 | ext {f args A r A'} (h : X f args A r A') : Big P ro X (.call f args) A (.call r) A'
section
variable (P : Program) (ro : Nat) (X : FuncId → List Value → AH → ARes → AH → Prop)
def Wp (c : Code) (e : Env) (A : AH) (Q : AExit → Env → AH → Prop) : Prop := ∃ x e' A', Big P ro X (.code c e) A (.code x e') A' ∧ Q x e' A'
def WpOps (ops : Array Oper) (D : Option (Nat → Prop)) (l : List Nat) (e : Env) (A : AH) (Q : AExit → Env → AH → Prop) : Prop :=
 ∃ x e' A', Big P ro X (.ops ops D l e) A (.code x e') A' ∧ Q x e' A'
def ACalls (f : FuncId) (args : List Value) (A : AH) (Q : ARes → AH → Prop) : Prop := ∃ r A', Big P ro X (.call f args) A (.call r) A' ∧ Q r A'
end
section
variable {P : Program} {ro : Nat} {X : FuncId → List Value → AH → ARes → AH → Prop} {e : Env} {A : AH} {Q : AExit → Env → AH → Prop}
theorem ACalls.mono {f : FuncId} {args : List Value} {R R' : ARes → AH → Prop} (h : ACalls P ro X f args A R) (k : ∀ r A', R r A' → R' r A') : ACalls P ro X f args A R' := by
 obtain ⟨r, A', hb, hr⟩ := h
 exact ⟨r, A', hb, k _ _ hr⟩
theorem Wp.mono {c : Code} {Q' : AExit → Env → AH → Prop} (h : Wp P ro X c e A Q) (k : ∀ x e' A', Q x e' A' → Q' x e' A') : Wp P ro X c e A Q' := by
 obtain ⟨x, e', A', hb, hr⟩ := h
 exact ⟨x, e', A', hb, k _ _ _ hr⟩
def thenQ (K : Env → AH → Prop) (Q : AExit → Env → AH → Prop) : AExit → Env → AH → Prop
 | .normal, e, A => K e A
 | x, e, A => Q x e A
def blockQ (id : Nat) (Q : AExit → Env → AH → Prop) : AExit → Env → AH → Prop
 | .exit id', e, A => if id' = id then Q .normal e A else Q (.exit id') e A
 | x, e, A => Q x e A
theorem Wp.skip (h : Q .normal e A) : Wp P ro X .skip e A Q := ⟨_, _, _, .skip, h⟩
theorem Wp.exit {id : Nat} (h : Q (.exit id) e A) : Wp P ro X (.exit id) e A Q := ⟨_, _, _, .exit, h⟩
theorem Wp.ret (h : Q .ret e A) : Wp P ro X .ret e A Q := ⟨_, _, _, .ret, h⟩
theorem Wp.seq {a b : Code} (h : Wp P ro X a e A (thenQ (fun e A => Wp P ro X b e A Q) Q)) : Wp P ro X (.seq a b) e A Q := by
 obtain ⟨x, e', A', hb, hq⟩ := h
 cases x with
 | normal => obtain ⟨x2, e2, A2, hb2, hq2⟩ := hq; exact ⟨x2, e2, A2, .seq hb hb2, hq2⟩
 | exit id => exact ⟨_, _, _, .seqx hb (by simp), hq⟩
 | ret => exact ⟨_, _, _, .seqx hb (by simp), hq⟩
 | pan v => exact ⟨_, _, _, .seqx hb (by simp), hq⟩
theorem Wp.cond {c : Operand} {a b : Code} {t : Bool} (hc : e.eval c = .bool t) (h : Wp P ro X (if t then a else b) e A Q) : Wp P ro X (.cond c a b) e A Q := by
 obtain ⟨x, e', A', hb, hq⟩ := h
 exact ⟨x, e', A', .cond hc hb, hq⟩
theorem Wp.block {id : Nat} {a : Code} (h : Wp P ro X a e A (blockQ id Q)) : Wp P ro X (.block id a) e A Q := by
 obtain ⟨x, e', A', hb, hq⟩ := h
 cases x with
 | normal => exact ⟨_, _, _, .blockx hb (by simp), hq⟩
 | exit id' =>
   by_cases hid : id' = id
   ·subst hid; simp only [blockQ, if_true] at hq; exact ⟨_, _, _, .block hb, hq⟩
   ·simp only [blockQ, if_neg hid] at hq; exact ⟨_, _, _, .blockx hb (by simpa using hid), hq⟩
 | ret => exact ⟨_, _, _, .blockx hb (by simp), hq⟩
 | pan v => exact ⟨_, _, _, .blockx hb (by simp), hq⟩
theorem Wp.loop1 {a : Code} (h : Wp P ro X a e A (thenQ (fun e A => Wp P ro X (.loop a) e A Q) Q)) : Wp P ro X (.loop a) e A Q := by
 obtain ⟨x, e', A', hb, hq⟩ := h
 cases x with
 | normal => obtain ⟨x2, e2, A2, hb2, hq2⟩ := hq; exact ⟨x2, e2, A2, .loop hb hb2, hq2⟩
 | exit id => exact ⟨_, _, _, .loopx hb (by simp), hq⟩
 | ret => exact ⟨_, _, _, .loopx hb (by simp), hq⟩
 | pan v => exact ⟨_, _, _, .loopx hb (by simp), hq⟩
theorem Wp.loop {a : Code} (I : Nat → Env → AH → Prop) (n : Nat) (h0 : I n e A)
 (h : ∀ n e A, I n e A → Wp P ro X a e A (thenQ (fun e' A' => ∃ k, k < n ∧ I k e' A') Q)) : Wp P ro X (.loop a) e A Q := by
 induction n using Nat.strongRecOn generalizing e A with
 | _ n ih =>
   refine Wp.loop1 ((h n e A h0).mono fun x e' A' hq => ?_)
   cases x with
   | normal => obtain ⟨k, hk, hi⟩ := hq; exact ih k hk hi
   | exit id => exact hq
   | ret => exact hq
   | pan v => exact hq
theorem Wp.region {id : Nat} {ops : Array Oper} {l : List Nat} (hl : List.range ops.size = l) (h : WpOps P ro X ops none l e A Q) : Wp P ro X (.region id ops false) e A Q := by
 subst hl
 obtain ⟨x, e', A', hb, hq⟩ := h
 exact ⟨x, e', A', .region hb, hq⟩
theorem Wp.drawn {id : Nat} {ops : Array Oper} (S : Nat → Prop) {l : List Nat} (hl : List.range ops.size = l) (hk : drawOk ops = true)
 (h : WpOps P ro X ops (some S) l e A Q) : Wp P ro X (.region id ops true) e A Q := by
 subst hl
 obtain ⟨x, e', A', hb, hq⟩ := h
 exact ⟨x, e', A', .drawn S hk hb, hq⟩
theorem WpOps.nil {ops : Array Oper} {D : Option (Nat → Prop)} (h : Q .normal e A) : WpOps P ro X ops D [] e A Q := ⟨_, _, _, .nil, h⟩
theorem WpOps.pass {ops : Array Oper} {D : Option (Nat → Prop)} {i : Nat} {l : List Nat} {o : Oper} (ho : ops[i]? = some o) (hw : aWanted ops o e = false)
 (h : WpOps P ro X ops D l (e.put o.dst undef) A Q) : WpOps P ro X ops D (i :: l) e A Q := by
 obtain ⟨x, e', A', hb, hq⟩ := h
 exact ⟨x, e', A', .pass ho hw hb, hq⟩
theorem WpOps.op {ops : Array Oper} {i : Nat} {l : List Nat} {o : Oper} {v : Value} {A1 : AH} (ho : ops[i]? = some o) (hw : aWanted ops o e = true)
 (hv : aOp P ro A.size o.op e A = some (v, A1)) (h : WpOps P ro X ops none l (e.put o.dst v) A1 Q) : WpOps P ro X ops none (i :: l) e A Q := by
 obtain ⟨x, e', A', hb, hq⟩ := h
 exact ⟨x, e', A', .op ho hw hv (fun _ h => by cases h) hb, hq⟩
def callQ (K : Value → AH → Prop) (E : Value → AH → Prop) : ARes → AH → Prop
 | .ret v, A => K v A
 | .pan v, A => E v A
theorem WpOps.call {ops : Array Oper} {i : Nat} {l : List Nat} {o : Oper} {f : FuncId} {args : List Value} (ho : ops[i]? = some o) (hw : aWanted ops o e = true)
 (ht : aTarget e o.op = some (f, args)) (h : ACalls P ro X f args A (callQ (fun v A1 => WpOps P ro X ops none l (e.put o.dst v) A1 Q) (fun v A1 => Q (.pan v) e A1))) :
 WpOps P ro X ops none (i :: l) e A Q := by
 obtain ⟨r, A1, hb, hq⟩ := h
 cases r with
 | ret v => obtain ⟨x, e', A', hb2, hq2⟩ := hq; exact ⟨x, e', A', .call ho hw ht hb (fun _ h => by cases h) hb2, hq2⟩
 | pan v => exact ⟨_, _, _, .callp ho hw ht hb (fun h => by cases h), hq⟩
theorem WpOps.panic {ops : Array Oper} {i : Nat} {l : List Nat} {o : Oper} {x : Operand} {t : TypeId} {v : Value} (ho : ops[i]? = some o) (hw : aWanted ops o e = true)
 (hx : o.op = .panic x) (hv : e.eval x = .iface t v) (h : Q (.pan (.iface t v)) e A) : WpOps P ro X ops none (i :: l) e A Q :=
 ⟨_, _, _, .panic ho hw hx hv, h⟩
def funcQ (P : Program) (fn : Func) (R : ARes → AH → Prop) : AExit → Env → AH → Prop
 | .normal, e, A => ∃ v, aResults P A e fn = some v ∧ R (.ret v) A
 | .ret, e, A => ∃ v, aResults P A e fn = some v ∧ R (.ret v) A
 | .pan v, _, A => R (.pan v) A
 | .exit _, _, _ => False
theorem ACalls.func {f : FuncId} {args : List Value} {fn : Func} {c : Code} {R : ARes → AH → Prop} (hf : P.funcs[f]? = some fn) (hb : fn.body = some c) (hnm : (fn.name == "runtime.NumGoroutine") = false)
 (hd : dstsOk fn.ntmps P.globals.size c = true) (ha : args.length ≤ fn.ntmps) (h : Wp P ro X c (Env.enter args) A (funcQ P fn R)) : ACalls P ro X f args A R := by
 obtain ⟨x, e', A', hb', hq⟩ := h
 cases x with
 | normal => obtain ⟨v, hv, hr⟩ := hq; exact ⟨_, _, .func hf hb hnm hd ha hb' (.inr rfl) hv, hr⟩
 | ret => obtain ⟨v, hv, hr⟩ := hq; exact ⟨_, _, .func hf hb hnm hd ha hb' (.inl rfl) hv, hr⟩
 | pan v => exact ⟨_, _, .funcp hf hb hnm hd ha hb', hq⟩
 | exit id => exact hq.elim
end
end Go.AM
namespace Go.AM
open Go
def aPanic (e : Env) : Op → Option Value
 | .panic x => match e.eval x with
   | .iface t v => some (.iface t v)
   | _ => none
 | _ => none
def Owed (ops : Array Oper) (D : Option (Nat → Prop)) (i : Nat) (op : Op) (e : Env) (A A' : AH) : Prop :=
 match D with
 | none => True
 | some S => Held ops (some S) i op e A A'
abbrev Post := AExit → Env → AH → Prop
abbrev Rest := Nat → Env → AH → Prop
def RunK (ops : Array Oper) (D : Option (Nat → Prop)) (o : Oper) (i : Nat) (e : Env) (A : AH) (Q : Post) (rest : Rest) : ARes → AH → Prop
 | .ret v, A1 => Owed ops D i o.op e A A1 ∧ rest (i + 1) (e.put o.dst v) A1
 | .pan v, A1 => (D.isSome = true → allWait ops i = true) ∧ Q (.pan v) e A1
def RunO (ops : Array Oper) (D : Option (Nat → Prop)) (o : Oper) (rest : Rest) (i : Nat) (e : Env) (A : AH) : Option (Value × AH) → Prop
 | some (v, A1) => Owed ops D i o.op e A A1 ∧ rest (i + 1) (e.put o.dst v) A1
 | none => False
def RunP (D : Option (Nat → Prop)) (Q : Post) (e : Env) (A : AH) (K : Option (Value × AH) → Prop) (r : Option (Value × AH)) : Option Value → Prop
 | some v => D = none ∧ Q (.pan v) e A
 | none => K r
def RunT (P : Program) (ro : Nat) (X : FuncId → List Value → AH → ARes → AH → Prop) (A : AH) (K : ARes → AH → Prop) (N : Option Value → Prop) (p : Option Value) :
    Option (FuncId × List Value) → Prop
 | some (f, args) => ACalls P ro X f args A K
 | none => N p
def RunOp (P : Program) (ro : Nat) (X : FuncId → List Value → AH → ARes → AH → Prop) (ops : Array Oper) (D : Option (Nat → Prop)) (Q : Post) (o : Oper) (rest : Rest) (i : Nat) (e : Env) (A : AH) (op : Op) : Prop :=
 RunT P ro X A (RunK ops D o i e A Q rest) (RunP D Q e A (RunO ops D o rest i e A) (aOp P ro A.size op e A)) (aPanic e op) (aTarget e op)
def RunW (rest : Rest) (o : Oper) (i : Nat) (e : Env) (A : AH) (N : Op → Prop) : Bool → Prop
 | true => N o.op
 | false => rest (i + 1) (e.put o.dst undef) A
def RunL (P : Program) (ro : Nat) (X : FuncId → List Value → AH → ARes → AH → Prop) (ops : Array Oper) (D : Option (Nat → Prop)) (Q : Post) : List Oper → Rest
 | [], _, e, A => Q .normal e A
 | o :: os, i, e, A =>
   RunW (RunL P ro X ops D Q os) o i e A (RunOp P ro X ops D Q o (RunL P ro X ops D Q os) i e A) (aWanted ops o e)
def CondB (f g : Env → AH → Prop) (e : Env) (A : AH) : Bool → Prop
 | true => f e A
 | false => g e A
def CondV (f g : Env → AH → Prop) (e : Env) (A : AH) : Value → Prop
 | .bool t => CondB f g e A t
 | _ => False
def RunC (P : Program) (ro : Nat) (X : FuncId → List Value → AH → ARes → AH → Prop) : Code → Post → Env → AH → Prop
 | .skip, Q, e, A => Q .normal e A
 | .seq a b, Q, e, A => RunC P ro X a (thenQ (RunC P ro X b Q) Q) e A
 | .cond c a b, Q, e, A => CondV (RunC P ro X a Q) (RunC P ro X b Q) e A (e.eval c)
 | .block id a, Q, e, A => RunC P ro X a (blockQ id Q) e A
 | .exit id, Q, e, A => Q (.exit id) e A
 | .ret, Q, e, A => Q .ret e A
 | .region _ ops false, Q, e, A => RunL P ro X ops none Q ops.toList 0 e A
 | c, Q, e, A => Wp P ro X c e A Q
section
variable {P : Program} {ro : Nat} {X : FuncId → List Value → AH → ARes → AH → Prop} {Q : Post}
theorem CondB.split {f g : Env → AH → Prop} {e : Env} {A : AH} {t : Bool} (h : t = true → f e A) (k : t = false → g e A) : CondB f g e A t := by
 cases t
 ·exact k rfl
 ·exact h rfl
theorem RunL.sound {ops : Array Oper} {D : Option (Nat → Prop)} : ∀ (os : List Oper) (i : Nat) (e : Env) (A : AH), os = ops.toList.drop i → RunL P ro X ops D Q os i e A →
 WpOps P ro X ops D (List.range' i os.length) e A Q := by
 intro os
 induction os with
 | nil => intro i e A _ h; exact WpOps.nil h
 | cons o os ih =>
   intro i e A hos h
   have ho : ops[i]? = some o := by
    have := congrArg (·[0]?) hos
    simpa using this.symm
   have hos' : os = ops.toList.drop (i + 1) := by
    have := congrArg (List.drop 1) hos
    simpa [List.drop_drop, Nat.add_comm] using this
   rw [List.length_cons, List.range'_succ]
   simp only [RunL] at h
   cases hw : aWanted ops o e with
   | false =>
     rw [hw] at h
     simp only [RunW] at h
     obtain ⟨x, e', A', hb2, hq2⟩ := ih _ _ _ hos' h
     exact ⟨x, e', A', .pass ho hw hb2, hq2⟩
   | true =>
     rw [hw] at h
     simp only [RunW, RunOp] at h
     cases ht : aTarget e o.op with
     | some fa =>
       obtain ⟨f, args⟩ := fa
       rw [ht] at h
       obtain ⟨r, A1, hb, hq⟩ := h
       cases r with
       | ret v =>
         simp only [RunK] at hq
         obtain ⟨hd, hq⟩ := hq
         obtain ⟨x, e', A', hb2, hq2⟩ := ih _ _ _ hos' hq
         refine ⟨x, e', A', .call ho hw ht hb ?_ hb2, hq2⟩
         cases D with
         | none => intro _ h; cases h
         | some S => exact hd
       | pan v => exact ⟨_, _, _, .callp ho hw ht hb hq.1, hq.2⟩
     | none =>
       rw [ht] at h
       simp only [RunT] at h
       cases hp : aPanic e o.op with
       | some v =>
         rw [hp] at h
         obtain ⟨rfl, hq⟩ := h
         cases hop : o.op <;> simp only [hop, aPanic] at hp <;> try (cases hp; done)
         rename_i x
         split at hp
         ·cases hp; exact ⟨_, _, _, .panic ho hw hop ‹_›, hq⟩
         ·cases hp
       | none =>
         rw [hp] at h
         simp only [RunP] at h
         cases hv : aOp P ro A.size o.op e A with
         | none => rw [hv] at h; exact h.elim
         | some va =>
           obtain ⟨v, A1⟩ := va
           rw [hv] at h
           obtain ⟨hd, hq⟩ := h
           obtain ⟨x, e', A', hb2, hq2⟩ := ih _ _ _ hos' hq
           refine ⟨x, e', A', .op ho hw hv ?_ hb2, hq2⟩
           cases D with
           | none => intro _ h; cases h
           | some S => exact hd
theorem Wp.run {id : Nat} {ops : Array Oper} {e : Env} {A : AH} (h : RunL P ro X ops none Q ops.toList 0 e A) : Wp P ro X (.region id ops false) e A Q := by
 have := RunL.sound ops.toList 0 e A (by simp) h
 refine Wp.region rfl ?_
 simpa [List.range_eq_range'] using this
theorem RunC.sound : ∀ (c : Code) (Q : Post) (e : Env) (A : AH), RunC P ro X c Q e A → Wp P ro X c e A Q := by
 intro c
 induction c with
 | skip => intro Q e A h; exact Wp.skip h
 | region id ops d =>
   intro Q e A h
   cases d with
   | false => exact Wp.run h
   | true => exact h
 | seq a b iha ihb =>
   intro Q e A h
   refine Wp.seq ((iha _ _ _ h).mono fun x e' A' hq => ?_)
   cases x with
   | normal => exact ihb _ _ _ hq
   | exit id => exact hq
   | ret => exact hq
   | pan v => exact hq
 | cond c a b iha ihb =>
   intro Q e A h
   simp only [RunC] at h
   cases hc : e.eval c <;> rw [hc] at h <;> try (exact h.elim)
   rename_i t
   refine Wp.cond hc ?_
   cases t with
   | true => exact iha _ _ _ h
   | false => exact ihb _ _ _ h
 | block id a ih => intro Q e A h; exact Wp.block (ih _ _ _ h)
 | exit id => intro Q e A h; exact Wp.exit h
 | ret => intro Q e A h; exact Wp.ret h
 | loop a => intro Q e A h; exact h
 | rangeFunc => intro Q e A h; exact h
 | scope => intro Q e A h; exact h
 | label => intro Q e A h; exact h
 | goto => intro Q e A h; exact h
 | refuse => intro Q e A h; exact h
theorem ACalls.enter {f : FuncId} {args : List Value} {fn : Func} {c : Code} {A : AH} {R : ARes → AH → Prop} (hf : P.funcs[f]? = some fn) (hb : fn.body = some c)
 (hd : (dstsOk fn.ntmps P.globals.size c && decide (args.length ≤ fn.ntmps) && !(fn.name == "runtime.NumGoroutine")) = true) (h : RunC P ro X c (funcQ P fn R) (Env.enter args) A) : ACalls P ro X f args A R := by
 simp only [Bool.and_eq_true, decide_eq_true_eq, Bool.not_eq_true'] at hd
 exact ACalls.func hf hb hd.2 hd.1.1 hd.1.2 (RunC.sound _ _ _ _ h)
theorem Wp.loopC {a : Code} {e : Env} {A : AH} (I : Nat → Env → AH → Prop) (n : Nat) (h0 : I n e A)
 (h : ∀ n e A, I n e A → RunC P ro X a (thenQ (fun e' A' => ∃ k, k < n ∧ I k e' A') Q) e A) : Wp P ro X (.loop a) e A Q :=
 Wp.loop I n h0 fun n e A hi => RunC.sound _ _ _ _ (h n e A hi)
end
end Go.AM
namespace Go.AM
open Go
section
variable {P : Program} {ro : Nat} {X : FuncId → List Value → AH → ARes → AH → Prop} {ops : Array Oper} {D : Option (Nat → Prop)} {Q : Post} {o : Oper} {rest : Rest} {i : Nat} {e : Env} {A : AH}
def Put (ops : Array Oper) (D : Option (Nat → Prop)) (o : Oper) (rest : Rest) (i : Nat) (e : Env) (A : AH) (v : Value) (A1 : AH) : Prop :=
 Owed ops D i o.op e A A1 ∧ rest (i + 1) (e.put o.dst v) A1
def PutV (ops : Array Oper) (D : Option (Nat → Prop)) (o : Oper) (rest : Rest) (i : Nat) (e : Env) (A : AH) : Option Value → Prop
 | some v => Put ops D o rest i e A v A
 | none => False
def PutA (ops : Array Oper) (D : Option (Nat → Prop)) (o : Oper) (rest : Rest) (i : Nat) (e : Env) (A : AH) : Option AH → Prop
 | some A1 => Put ops D o rest i e A undef A1
 | none => False
def PutB (ops : Array Oper) (D : Option (Nat → Prop)) (o : Oper) (rest : Rest) (i : Nat) (e : Env) (A : AH) : Option (Value × AH) → Prop
 | some (v, A1) => Put ops D o rest i e A v A1
 | none => False
theorem Put_none {v : Value} {A1 : AH} : Put ops none o rest i e A v A1 = rest (i + 1) (e.put o.dst v) A1 := by simp [Put, Owed]
theorem RunO_eq (r : Option (Value × AH)) : RunO ops D o rest i e A r = PutB ops D o rest i e A r := by
 cases r <;> rfl
def PickV (x y : Value) (K : Value → Prop) : Value → Prop
 | .bool t => K (if t then x else y)
 | _ => False
def aLoadK (A : AH) (a : Addr) : Option Bool → Option Nat → Option Value
 | some true, some n => (aRow A a n).map fun cs => .agg cs.toArray
 | some false, _ => aCell A a
 | _, _ => none
theorem aLoad_eq (P : Program) (A : AH) (t : TypeId) (a : Addr) : aLoad P A t a = aLoadK A a (tAgg P t) (tSize P t) := by
 unfold aLoad aLoadK
 cases tAgg P t with
 | none => rfl
 | some b => cases b <;> cases tSize P t <;> rfl
def LoadV (P : Program) (A : AH) (t : TypeId) (K : Option Value → Prop) : Value → Prop
 | .pointer (some a) => K (aLoadK A a (tAgg P t) (tSize P t))
 | _ => False
def aStoreK (ro : Nat) (A : AH) (a : Addr) : AObj → Option (List Value) → Option Nat → Option AH
 | .cells c e, some vs, some n => if vs.length = n ∧ ro ≤ a.block ∧ a.off + n ≤ c.length then some (A.put a.block (.cells (setCells c a.off vs) e)) else none
 | _, _, _ => none
def StoreV (P : Program) (ro : Nat) (A : AH) (t : TypeId) (v : Value) (K : Option AH → Prop) : Value → Prop
 | .pointer (some ⟨b, off, none⟩) => K (aStoreK ro A ⟨b, off, none⟩ (A.get b) (acells v) (tSize P t))
 | _ => False
def TgtV (P : Program) (ro : Nat) (X : FuncId → List Value → AH → ARes → AH → Prop) (A : AH) (K : ARes → AH → Prop) (as : List Value) : Value → Prop
 | .func (.func g) first captured => ACalls P ro X g (first.toList ++ as ++ captured.toList) A K
 | _ => False
def opDst (os : List Oper) (j : Nat) : Option Nat := match os[j]? with | some o => o.dst | none => none
def guardB (want : Bool) : Value → Bool
 | .bool b => b == want
 | _ => false
def guardD (want : Bool) (e : Env) : Option Nat → Bool
 | some d => guardB want (e d)
 | none => false
theorem wanted_some (d : Option Tmp) (op : Op) (t : TypeId) (p : String) (af : Array Edge) (j : Nat) (w : Bool) :
 aWanted ops ⟨d, op, t, p, af, some (j, w)⟩ e = guardD w e (opDst ops.toList j) := by
 unfold aWanted guardD opDst guardB
 simp only [Array.getElem?_toList]
 cases ops[j]? <;> simp
 rename_i o
 cases o.dst <;> rfl
theorem opDst_z (o : Oper) (os : List Oper) : opDst (o :: os) 0 = o.dst := rfl
theorem opDst_s (o : Oper) (os : List Oper) (j : Nat) : opDst (o :: os) (j + 1) = opDst os j := rfl
theorem rop_move {x : Operand} : RunOp P ro X ops D Q o rest i e A (.move x) = Put ops D o rest i e A (e.eval x) A := rfl
theorem rop_assign {x : Operand} : RunOp P ro X ops D Q o rest i e A (.assign x) = Put ops D o rest i e A (e.eval x) A := rfl
theorem rop_pick {c a b : Operand} : RunOp P ro X ops D Q o rest i e A (.pick c a b) = PickV (e.eval a) (e.eval b) (fun v => Put ops D o rest i e A v A) (e.eval c) := by
 simp only [RunOp, RunT, RunP, aTarget, aPanic, aOp]
 cases e.eval c <;> rfl
theorem rop_alloc {t : TypeId} : RunOp P ro X ops D Q o rest i e A (.alloc t) = PutB ops D o rest i e A (aOp P ro A.size (.alloc t) e A) := RunO_eq _
theorem rop_box {t : TypeId} {x : Operand} : RunOp P ro X ops D Q o rest i e A (.box t x) = PutB ops D o rest i e A (aOp P ro A.size (.box t x) e A) := RunO_eq _
theorem rop_build {t : TypeId} {ps : Array (Nat × Operand)} : RunOp P ro X ops D Q o rest i e A (.build t ps) = PutB ops D o rest i e A (aOp P ro A.size (.build t ps) e A) := RunO_eq _
theorem rop_buildSlice {t : TypeId} {n : Nat} {ps : Array (Nat × Operand)} : RunOp P ro X ops D Q o rest i e A (.buildSlice t n ps) = PutB ops D o rest i e A (aOp P ro A.size (.buildSlice t n ps) e A) := RunO_eq _
theorem rop_load {t : TypeId} {x : Operand} : RunOp P ro X ops D Q o rest i e A (.load t x) = LoadV P A t (PutV ops D o rest i e A) (e.eval x) := by
 simp only [RunOp, RunT, RunP, aTarget, aPanic, aOp]
 cases e.eval x <;> try rfl
 rename_i a
 cases a with
 | none => rfl
 | some a => simp only [LoadV, ← aLoad_eq]; cases aLoad P A t a <;> rfl
theorem rop_store {t : TypeId} {x v : Operand} : RunOp P ro X ops D Q o rest i e A (.store t x v) = StoreV P ro A t (e.eval v) (PutA ops D o rest i e A) (e.eval x) := by
 simp only [RunOp, RunT, RunP, aTarget, aPanic, aOp]
 cases e.eval x <;> try rfl
 rename_i a
 cases a with
 | none => rfl
 | some a =>
   obtain ⟨b, off, sp⟩ := a
   cases sp with
   | some s => simp only [StoreV]; simp [aStore, RunO]
   | none =>
     simp only [StoreV]
     have : aStore P ro A t ⟨b, off, none⟩ (e.eval v) = aStoreK ro A ⟨b, off, none⟩ (A.get b) (acells (e.eval v)) (tSize P t) := by
      unfold aStore aStoreK
      cases A.get b <;> cases acells (e.eval v) <;> cases tSize P t <;> rfl
     rw [this]
     cases aStoreK ro A ⟨b, off, none⟩ (A.get b) (acells (e.eval v)) (tSize P t) <;> rfl
theorem rop_nilCheck {x : Operand} : RunOp P ro X ops D Q o rest i e A (.nilCheck x) = PutB ops D o rest i e A (aOp P ro A.size (.nilCheck x) e A) := RunO_eq _
theorem rop_binOp {op : BinOp} {t t' : TypeId} {x y : Operand} : RunOp P ro X ops D Q o rest i e A (.binOp op t x y t') = PutV ops D o rest i e A (aBinN P op t (litNil x y) (e.eval x) (e.eval y)) := by
 simp only [RunOp, RunT, RunP, aTarget, aPanic, aOp]
 cases aBinN P op t (litNil x y) (e.eval x) (e.eval y) <;> rfl
theorem rop_unOp {op : UnOp} {t : TypeId} {x : Operand} : RunOp P ro X ops D Q o rest i e A (.unOp op t x) = PutV ops D o rest i e A (aUn op (e.eval x)) := by
 simp only [RunOp, RunT, RunP, aTarget, aPanic, aOp]
 cases aUn op (e.eval x) <;> rfl
theorem rop_convert {s d : TypeId} {x : Operand} : RunOp P ro X ops D Q o rest i e A (.convert s d x) = PutB ops D o rest i e A (aConvert P A.size A s d (e.eval x)) := RunO_eq _
theorem rop_makeInterface {t : TypeId} {x : Operand} : RunOp P ro X ops D Q o rest i e A (.makeInterface t x) = PutB ops D o rest i e A (aOp P ro A.size (.makeInterface t x) e A) := RunO_eq _
theorem rop_makeFunc {f : Fn} {a b : Array Operand} : RunOp P ro X ops D Q o rest i e A (.makeFunc f a b) = Put ops D o rest i e A (.func f (a.map e.eval) (b.map e.eval)) A := rfl
theorem rop_makeMap {t : TypeId} : RunOp P ro X ops D Q o rest i e A (.makeMap t none) = Put ops D o rest i e A (.map (some A.size)) (A.new (.map [])) := by
 rw [← AH.newAt_self]; rfl
theorem rop_makeSlice {t : TypeId} {l c : Operand} : RunOp P ro X ops D Q o rest i e A (.makeSlice t l c) = PutB ops D o rest i e A (aMakeSlice P A.size A t (e.eval l) (e.eval c)) := RunO_eq _
theorem rop_slice {t : TypeId} {x : Operand} {lo hi mx : Option Operand} :
 RunOp P ro X ops D Q o rest i e A (.slice t x lo hi mx) = PutV ops D o rest i e A (aSlice P A t (e.eval x) (lo.map e.eval) (hi.map e.eval) (mx.map e.eval)) := by
 simp only [RunOp, RunT, RunP, aTarget, aPanic, aOp]
 cases aSlice P A t (e.eval x) (lo.map e.eval) (hi.map e.eval) (mx.map e.eval) <;> rfl
def FieldV (K : Value → Prop) : Option (Nat × TypeId) → Value → Prop
 | some (off, _), .pointer (some a) => K (.pointer (some (a.add off)))
 | _, _ => False
theorem rop_fieldAddr {t : TypeId} {x : Operand} {f : Nat} : RunOp P ro X ops D Q o rest i e A (.fieldAddr t x f) = FieldV (fun v => Put ops D o rest i e A v A) (tField P t f) (e.eval x) := by
 simp only [RunOp, RunT, RunP, aTarget, aPanic, aOp]
 cases tField P t f with
 | none => rfl
 | some of =>
   obtain ⟨off, ft⟩ := of
   cases e.eval x <;> try rfl
   rename_i a
   cases a <;> rfl
theorem rop_field {t : TypeId} {x : Operand} {f : Nat} : RunOp P ro X ops D Q o rest i e A (.field t x f) = PutB ops D o rest i e A (aOp P ro A.size (.field t x f) e A) := RunO_eq _
theorem rop_indexAddr {t : TypeId} {x y : Operand} : RunOp P ro X ops D Q o rest i e A (.indexAddr t x y) = PutV ops D o rest i e A (aIndexAddr P t (e.eval x) (e.eval y)) := by
 simp only [RunOp, RunT, RunP, aTarget, aPanic, aOp]
 cases aIndexAddr P t (e.eval x) (e.eval y) <;> rfl
theorem rop_index {t : TypeId} {x y : Operand} : RunOp P ro X ops D Q o rest i e A (.index t x y) = PutV ops D o rest i e A (aIndex P t (e.eval x) (e.eval y)) := by
 simp only [RunOp, RunT, RunP, aTarget, aPanic, aOp]
 cases aIndex P t (e.eval x) (e.eval y) <;> rfl
theorem rop_lookup {t : TypeId} {m k : Operand} {ok : Bool} : RunOp P ro X ops D Q o rest i e A (.lookup t m k ok) = PutV ops D o rest i e A (aLookup P A t (e.eval m) (e.eval k) ok) := by
 simp only [RunOp, RunT, RunP, aTarget, aPanic, aOp]
 cases aLookup P A t (e.eval m) (e.eval k) ok <;> rfl
theorem rop_mapUpdate {t : TypeId} {m k v : Operand} : RunOp P ro X ops D Q o rest i e A (.mapUpdate t m k v) = PutA ops D o rest i e A (aMapSet P ro A t (e.eval m) (e.eval k) (e.eval v)) := by
 simp only [RunOp, RunT, RunP, aTarget, aPanic, aOp]
 cases aMapSet P ro A t (e.eval m) (e.eval k) (e.eval v) <;> rfl
def ExtractV (i : Nat) (K : Option Value → Prop) : Value → Prop
 | .tuple vs => K vs.toList[i]?
 | _ => False
theorem rop_extract {x : Operand} {j : Nat} : RunOp P ro X ops D Q o rest i e A (.extract x j) = ExtractV j (PutV ops D o rest i e A) (e.eval x) := by
 simp only [RunOp, RunT, RunP, aTarget, aPanic, aOp]
 cases e.eval x <;> try rfl
 rename_i vs
 simp only [ExtractV]
 cases vs.toList[j]? <;> rfl
theorem rop_len {x : Operand} {t : TypeId} : RunOp P ro X ops D Q o rest i e A (.call ⟨.builtin .len, #[x], #[t]⟩) = PutV ops D o rest i e A (aLen P A t (e.eval x)) := by
 simp only [RunOp, RunT, RunP, aTarget, aPanic, aOp]
 cases aLen P A t (e.eval x) <;> rfl
theorem rop_append {s x : Operand} {t t2 : TypeId} : RunOp P ro X ops D Q o rest i e A (.call ⟨.builtin .append, #[s, x], #[t, t2]⟩) =
 PutB ops D o rest i e A (match tKind P t2 with | some .slice | some .str => aAppend P ro A t (e.eval s) (e.eval x) | _ => none) := RunO_eq _
theorem rop_min {as : Array Operand} {ts : Array TypeId} : RunOp P ro X ops D Q o rest i e A (.call ⟨.builtin .min, as, ts⟩) = PutV ops D o rest i e A (aMin (as.toList.map e.eval)) := by
 simp only [RunOp, RunT, RunP, aTarget, aPanic, aOp]
 cases aMin (as.toList.map e.eval) <;> rfl
theorem rop_call {f : Operand} {as : Array Operand} {ts : Array TypeId} :
 RunOp P ro X ops D Q o rest i e A (.call ⟨.value f, as, ts⟩) = TgtV P ro X A (RunK ops D o i e A Q rest) (as.toList.map e.eval) (e.eval f) := by
 simp only [RunOp, aTarget, aPanic, aOp]
 cases e.eval f <;> try rfl
 rename_i fn a b
 cases fn <;> rfl
def PanicV (K : Value → Prop) : Value → Prop
 | .iface t v => K (.iface t v)
 | _ => False
theorem rop_panic {x : Operand} : RunOp P ro X ops D Q o rest i e A (.panic x) = PanicV (fun v => D = none ∧ Q (.pan v) e A) (e.eval x) := by
 simp only [RunOp, RunT, aTarget, aPanic, aOp]
 cases e.eval x <;> rfl
def assertK (A : AH) (d : TypeId) : Option Kind → Option Value → Value → Option (Value × AH)
 | some .struct, some z, .iface t v => some (if t = d then .tuple #[v, .bool true] else .tuple #[z, .bool false], A)
 | _, _, _ => none
theorem rop_assert {x : Operand} {xt d : TypeId} : RunOp P ro X ops D Q o rest i e A (.typeAssert x xt d true) = PutB ops D o rest i e A (assertK A d (tKind P d) (tZero P d) (e.eval x)) := RunO_eq _
theorem put_tmp (d : Nat) (v : Value) (t : Nat) : Env.put e (some d) v t = if t = d then v else e t := by
 unfold Env.put
 by_cases h : t = d
 ·subst h; simp
 ·rw [if_neg h, if_neg (fun h' => h (by cases h'; rfl))]
theorem put_none (v : Value) (t : Nat) : Env.put e none v t = e t := by simp [Env.put]
end
theorem amTA (P : Program) (ro : Nat) (X : FuncId → List Value → AH → ARes → AH → Prop) :
 (∀ (ops : Array Oper) (D : Option (Nat → Prop)) (Q : Post) (o : Oper) (rest : Rest) (i : Nat) (e : Env) (A : AH) (x : Operand) (xt d : TypeId), RunOp P ro X ops D Q o rest i e A (.typeAssert x xt d true) = PutB ops D o rest i e A (assertK A d (tKind P d) (tZero P d) (e.eval x))) ∧
 (∀ A d z t v, assertK A d (some .struct) (some z) (.iface t v) = some (if t = d then .tuple #[v, .bool true] else .tuple #[z, .bool false], A)) :=
 ⟨fun _ _ _ _ _ _ _ _ _ _ _ => rop_assert, fun _ _ _ _ _ => rfl⟩
end Go.AM
namespace Go.AM
open Go
theorem amV :
 (∀ (e : Env) (t : Nat), e.eval (.tmp t) = e t) ∧ (∀ (e : Env) (v : Value), e.eval (.const v) = v) ∧ (∀ (e : Env) (g : Nat), e.eval (.global g) = .pointer (some ⟨g, 0, none⟩)) ∧
 (∀ (e : Env) (f : Nat), e.eval (.func f) = .func (.func f) #[] #[]) ∧
 (∀ (e : Env) (d : Nat) (v : Value) (t : Nat), Env.put e (some d) v t = if t = d then v else e t) ∧ (∀ (e : Env) (v : Value) (t : Nat), Env.put e none v t = e t) ∧
 (∀ (as : List Value) (t : Nat), Env.enter as t = as.getD t undef) ∧
 (∀ (w b : Bool), guardB w (.bool b) = (b == w)) ∧ (∀ (w : Bool) (e : Env) (d : Nat), guardD w e (some d) = guardB w (e d)) ∧
 (∀ (o : Oper) (os : List Oper), opDst (o :: os) 0 = o.dst) ∧ (∀ (o : Oper) (os : List Oper) (j : Nat), opDst (o :: os) (j + 1) = opDst os j) :=
 ⟨fun _ _ => rfl, fun _ _ => rfl, fun _ _ => rfl, fun _ _ => rfl, fun _ _ _ _ => put_tmp _ _ _, fun _ _ _ => put_none _ _, fun _ _ => rfl, fun _ _ => rfl, fun _ _ _ => rfl, opDst_z, opDst_s⟩
section
variable (P : Program) (ro : Nat) (X : FuncId → List Value → AH → ARes → AH → Prop)
theorem amC :
 (∀ Q e A, RunC P ro X .skip Q e A = Q .normal e A) ∧ (∀ a b Q e A, RunC P ro X (.seq a b) Q e A = RunC P ro X a (thenQ (RunC P ro X b Q) Q) e A) ∧
 (∀ c a b Q e A, RunC P ro X (.cond c a b) Q e A = CondV (RunC P ro X a Q) (RunC P ro X b Q) e A (e.eval c)) ∧
 (∀ n a Q e A, RunC P ro X (.block n a) Q e A = RunC P ro X a (blockQ n Q) e A) ∧ (∀ n Q e A, RunC P ro X (.exit n) Q e A = Q (.exit n) e A) ∧
 (∀ Q e A, RunC P ro X .ret Q e A = Q .ret e A) ∧ (∀ n ops Q e A, RunC P ro X (.region n ops false) Q e A = RunL P ro X ops none Q ops.toList 0 e A) ∧
 (∀ ops D Q i e A, RunL P ro X ops D Q [] i e A = Q .normal e A) ∧
 (∀ ops D Q o os i e A, RunL P ro X ops D Q (o :: os) i e A = RunW (RunL P ro X ops D Q os) o i e A (RunOp P ro X ops D Q o (RunL P ro X ops D Q os) i e A) (aWanted ops o e)) :=
 ⟨fun _ _ _ => rfl, fun _ _ _ _ _ => rfl, fun _ _ _ _ _ _ => rfl, fun _ _ _ _ _ => rfl, fun _ _ _ _ => rfl, fun _ _ _ => rfl, fun _ _ _ _ _ => rfl, fun _ _ _ _ _ _ => rfl,
  fun _ _ _ _ _ _ _ _ => rfl⟩
theorem amO (ops : Array Oper) (D : Option (Nat → Prop)) (Q : Post) (o : Oper) (rest : Rest) (i : Nat) (e : Env) (A : AH) :
 (∀ x, RunOp P ro X ops D Q o rest i e A (.move x) = Put ops D o rest i e A (e.eval x) A) ∧
 (∀ x, RunOp P ro X ops D Q o rest i e A (.assign x) = Put ops D o rest i e A (e.eval x) A) ∧
 (∀ c a b, RunOp P ro X ops D Q o rest i e A (.pick c a b) = PickV (e.eval a) (e.eval b) (fun v => Put ops D o rest i e A v A) (e.eval c)) ∧
 (∀ t, RunOp P ro X ops D Q o rest i e A (.alloc t) = PutB ops D o rest i e A (aOp P ro A.size (.alloc t) e A)) ∧
 (∀ t x, RunOp P ro X ops D Q o rest i e A (.box t x) = PutB ops D o rest i e A (aOp P ro A.size (.box t x) e A)) ∧
 (∀ t ps, RunOp P ro X ops D Q o rest i e A (.build t ps) = PutB ops D o rest i e A (aOp P ro A.size (.build t ps) e A)) ∧
 (∀ t n ps, RunOp P ro X ops D Q o rest i e A (.buildSlice t n ps) = PutB ops D o rest i e A (aOp P ro A.size (.buildSlice t n ps) e A)) ∧
 (∀ t x, RunOp P ro X ops D Q o rest i e A (.load t x) = LoadV P A t (PutV ops D o rest i e A) (e.eval x)) ∧
 (∀ t x v, RunOp P ro X ops D Q o rest i e A (.store t x v) = StoreV P ro A t (e.eval v) (PutA ops D o rest i e A) (e.eval x)) ∧
 (∀ x, RunOp P ro X ops D Q o rest i e A (.nilCheck x) = PutB ops D o rest i e A (aOp P ro A.size (.nilCheck x) e A)) ∧
 (∀ op t x y t', RunOp P ro X ops D Q o rest i e A (.binOp op t x y t') = PutV ops D o rest i e A (aBinN P op t (litNil x y) (e.eval x) (e.eval y))) ∧
 (∀ op t x, RunOp P ro X ops D Q o rest i e A (.unOp op t x) = PutV ops D o rest i e A (aUn op (e.eval x))) ∧
 (∀ s d x, RunOp P ro X ops D Q o rest i e A (.convert s d x) = PutB ops D o rest i e A (aConvert P A.size A s d (e.eval x))) ∧
 (∀ t x, RunOp P ro X ops D Q o rest i e A (.makeInterface t x) = PutB ops D o rest i e A (aOp P ro A.size (.makeInterface t x) e A)) ∧
 (∀ f a b, RunOp P ro X ops D Q o rest i e A (.makeFunc f a b) = Put ops D o rest i e A (.func f (a.map e.eval) (b.map e.eval)) A) ∧
 (∀ t, RunOp P ro X ops D Q o rest i e A (.makeMap t none) = Put ops D o rest i e A (.map (some A.size)) (A.new (.map []))) ∧
 (∀ t l c, RunOp P ro X ops D Q o rest i e A (.makeSlice t l c) = PutB ops D o rest i e A (aMakeSlice P A.size A t (e.eval l) (e.eval c))) ∧
 (∀ t x lo hi mx, RunOp P ro X ops D Q o rest i e A (.slice t x lo hi mx) = PutV ops D o rest i e A (aSlice P A t (e.eval x) (lo.map e.eval) (hi.map e.eval) (mx.map e.eval))) ∧
 (∀ t x f, RunOp P ro X ops D Q o rest i e A (.fieldAddr t x f) = FieldV (fun v => Put ops D o rest i e A v A) (tField P t f) (e.eval x)) ∧
 (∀ t x f, RunOp P ro X ops D Q o rest i e A (.field t x f) = PutB ops D o rest i e A (aOp P ro A.size (.field t x f) e A)) ∧
 (∀ t x y, RunOp P ro X ops D Q o rest i e A (.indexAddr t x y) = PutV ops D o rest i e A (aIndexAddr P t (e.eval x) (e.eval y))) ∧
 (∀ t x y, RunOp P ro X ops D Q o rest i e A (.index t x y) = PutV ops D o rest i e A (aIndex P t (e.eval x) (e.eval y))) ∧
 (∀ t m k ok, RunOp P ro X ops D Q o rest i e A (.lookup t m k ok) = PutV ops D o rest i e A (aLookup P A t (e.eval m) (e.eval k) ok)) ∧
 (∀ t m k v, RunOp P ro X ops D Q o rest i e A (.mapUpdate t m k v) = PutA ops D o rest i e A (aMapSet P ro A t (e.eval m) (e.eval k) (e.eval v))) ∧
 (∀ x j, RunOp P ro X ops D Q o rest i e A (.extract x j) = ExtractV j (PutV ops D o rest i e A) (e.eval x)) ∧
 (∀ x t, RunOp P ro X ops D Q o rest i e A (.call ⟨.builtin .len, #[x], #[t]⟩) = PutV ops D o rest i e A (aLen P A t (e.eval x))) ∧
 (∀ s x t t2, RunOp P ro X ops D Q o rest i e A (.call ⟨.builtin .append, #[s, x], #[t, t2]⟩) =
   PutB ops D o rest i e A (match tKind P t2 with | some .slice | some .str => aAppend P ro A t (e.eval s) (e.eval x) | _ => none)) ∧
 (∀ as ts, RunOp P ro X ops D Q o rest i e A (.call ⟨.builtin .min, as, ts⟩) = PutV ops D o rest i e A (aMin (as.toList.map e.eval))) ∧
 (∀ f as ts, RunOp P ro X ops D Q o rest i e A (.call ⟨.value f, as, ts⟩) = TgtV P ro X A (RunK ops D o i e A Q rest) (as.toList.map e.eval) (e.eval f)) ∧
 (∀ x, RunOp P ro X ops D Q o rest i e A (.panic x) = PanicV (fun v => D = none ∧ Q (.pan v) e A) (e.eval x)) :=
 ⟨fun _ => rop_move, fun _ => rop_assign, fun _ _ _ => rop_pick, fun _ => rop_alloc, fun _ _ => rop_box, fun _ _ => rop_build, fun _ _ _ => rop_buildSlice, fun _ _ => rop_load, fun _ _ _ => rop_store,
  fun _ => rop_nilCheck, fun _ _ _ _ _ => rop_binOp, fun _ _ _ => rop_unOp, fun _ _ _ => rop_convert, fun _ _ => rop_makeInterface, fun _ _ _ => rop_makeFunc, fun _ => rop_makeMap, fun _ _ _ => rop_makeSlice,
  fun _ _ _ _ _ => rop_slice, fun _ _ _ => rop_fieldAddr, fun _ _ _ => rop_field, fun _ _ _ => rop_indexAddr, fun _ _ _ => rop_index, fun _ _ _ _ => rop_lookup, fun _ _ _ _ => rop_mapUpdate,
  fun _ _ => rop_extract, fun _ _ => rop_len, fun _ _ _ _ => rop_append, fun _ _ => rop_min, fun _ _ _ => rop_call, fun _ => rop_panic⟩
end
theorem amK :
 (∀ f g e A b, CondV f g e A (.bool b) = CondB f g e A b) ∧ (∀ f g e A, CondB f g e A true = f e A) ∧ (∀ f g e A, CondB f g e A false = g e A) ∧
 (∀ (K : Env → AH → Prop) (Q : Post) e A, thenQ K Q .normal e A = K e A) ∧ (∀ (K : Env → AH → Prop) (Q : Post) n e A, thenQ K Q (.exit n) e A = Q (.exit n) e A) ∧
 (∀ (K : Env → AH → Prop) (Q : Post) e A, thenQ K Q .ret e A = Q .ret e A) ∧ (∀ (K : Env → AH → Prop) (Q : Post) v e A, thenQ K Q (.pan v) e A = Q (.pan v) e A) ∧
 (∀ n (Q : Post) e A, blockQ n Q .normal e A = Q .normal e A) ∧ (∀ n m (Q : Post) e A, blockQ n Q (.exit m) e A = if m = n then Q .normal e A else Q (.exit m) e A) ∧
 (∀ n (Q : Post) e A, blockQ n Q .ret e A = Q .ret e A) ∧ (∀ n (Q : Post) v e A, blockQ n Q (.pan v) e A = Q (.pan v) e A) ∧
 (∀ (rest : Rest) o i e A N, RunW rest o i e A N true = N o.op) ∧ (∀ (rest : Rest) o i e A N, RunW rest o i e A N false = rest (i + 1) (e.put o.dst undef) A) ∧
 (∀ ops o (rest : Rest) i e A v A1, Put ops none o rest i e A v A1 = rest (i + 1) (e.put o.dst v) A1) ∧
 (∀ ops D o (rest : Rest) i e A v, PutV ops D o rest i e A (some v) = Put ops D o rest i e A v A) ∧ (∀ ops D o (rest : Rest) i e A A1, PutA ops D o rest i e A (some A1) = Put ops D o rest i e A undef A1) ∧
 (∀ ops D o (rest : Rest) i e A v A1, PutB ops D o rest i e A (some (v, A1)) = Put ops D o rest i e A v A1) ∧
 (∀ x y K b, PickV x y K (.bool b) = K (if b then x else y)) ∧ (∀ (P : Program) (A : AH) (t : TypeId) (K : Option Value → Prop) (a : Addr), LoadV P A t K (.pointer (some a)) = K (aLoadK A a (tAgg P t) (tSize P t))) ∧
 (∀ (P : Program) (ro : Nat) (A : AH) (t : TypeId) (v : Value) (K : Option AH → Prop) (b off : Nat), StoreV P ro A t v K (.pointer (some ⟨b, off, none⟩)) = K (aStoreK ro A ⟨b, off, none⟩ (A.get b) (acells v) (tSize P t))) ∧
 (∀ P ro X A K as g f c, TgtV P ro X A K as (.func (.func g) f c) = ACalls P ro X g (f.toList ++ as ++ c.toList) A K) ∧
 (∀ (K : Value → Prop) (off : Nat) (ft : TypeId) (a : Addr), FieldV K (some (off, ft)) (.pointer (some a)) = K (.pointer (some (a.add off)))) ∧ (∀ j K vs, ExtractV j K (.tuple vs) = K vs.toList[j]?) ∧
 (∀ (K : Value → Prop) (t : TypeId) (v : Value), PanicV K (.iface t v) = K (.iface t v)) ∧
 (∀ ops o i e A (Q : Post) (rest : Rest) v A1, RunK ops none o i e A Q rest (.ret v) A1 = rest (i + 1) (e.put o.dst v) A1) ∧
 (∀ ops o i e A (Q : Post) (rest : Rest) v A1, RunK ops none o i e A Q rest (.pan v) A1 = Q (.pan v) e A1) ∧
 (∀ (ops : Array Oper) (d : Option Tmp) (op : Op) (t : TypeId) (p : String) (af : Array Edge) (e : Env), aWanted ops ⟨d, op, t, p, af, none⟩ e = true) ∧
 (∀ (ops : Array Oper) (d : Option Tmp) (op : Op) (t : TypeId) (p : String) (af : Array Edge) (j : Nat) (w : Bool) (e : Env), aWanted ops ⟨d, op, t, p, af, some (j, w)⟩ e = guardD w e (opDst ops.toList j)) :=
 ⟨fun _ _ _ _ _ => rfl, fun _ _ _ _ => rfl, fun _ _ _ _ => rfl, fun _ _ _ _ => rfl, fun _ _ _ _ _ => rfl, fun _ _ _ _ => rfl, fun _ _ _ _ _ => rfl, fun _ _ _ _ => rfl, fun _ _ _ _ _ => rfl, fun _ _ _ _ => rfl,
  fun _ _ _ _ _ => rfl, fun _ _ _ _ _ _ => rfl, fun _ _ _ _ _ _ => rfl, fun _ _ _ _ _ _ _ _ => Put_none, fun _ _ _ _ _ _ _ _ => rfl, fun _ _ _ _ _ _ _ _ => rfl, fun _ _ _ _ _ _ _ _ _ => rfl, fun _ _ _ _ => rfl,
  fun _ _ _ _ _ => rfl, fun _ _ _ _ _ _ _ _ => rfl, fun _ _ _ _ _ _ _ _ _ => rfl, fun _ _ _ _ => rfl, fun _ _ _ => rfl, fun _ _ _ => rfl, fun _ _ _ _ _ _ _ _ _ => by simp [RunK, Owed], fun _ _ _ _ _ _ _ _ _ => by simp [RunK],
  fun _ _ _ _ _ _ _ => rfl, fun _ _ _ _ _ _ _ _ _ => wanted_some _ _ _ _ _ _ _⟩
theorem aBin_ifq {P : Program} (t t' : TypeId) (a : Value) : aBin P .eql t (.iface t' a) .nilIface = if tKind P t = some .iface then some (.bool false) else none := by
 unfold aBin aEq
 cases tKind P t with
 | none => simp
 | some k => cases k <;> simp
theorem aBin_ifn {P : Program} (t t' : TypeId) (a : Value) : aBin P .neq t (.iface t' a) .nilIface = if tKind P t = some .iface then some (.bool true) else none := by
 unfold aBin aEq
 cases tKind P t with
 | none => simp
 | some k => cases k <;> simp
theorem amB (P : Program) :
 (∀ op t c k a v, aBinN P op t c (.int k a) v = aBin P op t (.int k a) v) ∧ (∀ op t c a v, aBinN P op t c (.string a) v = aBin P op t (.string a) v) ∧ (∀ op t c a v, aBinN P op t c (.bool a) v = aBin P op t (.bool a) v) ∧
 (∀ op t c a v, aBinN P op t c (.pointer a) v = aBin P op t (.pointer a) v) ∧ (∀ op t c a n m v, aBinN P op t c (.slice a n m) v = aBin P op t (.slice a n m) v) ∧ (∀ op t c a v, aBinN P op t c (.map a) v = aBin P op t (.map a) v) ∧
 (∀ op t c a v, aBinN P op t c (.agg a) v = aBin P op t (.agg a) v) ∧ (∀ op t c f a b v, aBinN P op t c (.func f a b) v = aBin P op t (.func f a b) v) ∧ (∀ op t c v, aBinN P op t c .nilFunc v = aBin P op t .nilFunc v) ∧
 (∀ op t c t' a v, aBinN P op t c (.iface t' a) v = aBin P op t (.iface t' a) v) ∧ (∀ op t c v t' a, aBinN P op t c v (.iface t' a) = aBin P op t v (.iface t' a)) ∧
 (∀ op t c v k a, aBinN P op t c v (.int k a) = aBin P op t v (.int k a)) ∧ (∀ op t c v a, aBinN P op t c v (.string a) = aBin P op t v (.string a)) ∧ (∀ op t c v a, aBinN P op t c v (.bool a) = aBin P op t v (.bool a)) ∧
 (∀ op t c v a, aBinN P op t c v (.pointer a) = aBin P op t v (.pointer a)) ∧ (∀ op t c v a n m, aBinN P op t c v (.slice a n m) = aBin P op t v (.slice a n m)) ∧ (∀ op t c v a, aBinN P op t c v (.map a) = aBin P op t v (.map a)) ∧
 (∀ op t c v, aBinN P op t c v .nilFunc = aBin P op t v .nilFunc) ∧ (∀ op t c v a, aBinN P op t c v (.agg a) = aBin P op t v (.agg a)) ∧
 (∀ op t x v, aBinN P op t (litNil x (.const v)) .nilIface .nilIface = nilCmp op (tKind P t)) ∧ nilCmp .eql (some .iface) = some (.bool true) ∧ nilCmp .neq (some .iface) = some (.bool false) ∧
 (∀ t t' a, aBin P .eql t (.iface t' a) .nilIface = if tKind P t = some .iface then some (.bool false) else none) ∧ (∀ t t' a, aBin P .neq t (.iface t' a) .nilIface = if tKind P t = some .iface then some (.bool true) else none) ∧
 (∀ t k a b, aBin P .add t (.int k a) (.int k b) = some (.int k (k.wrap (a + b)))) ∧ (∀ t k a b, aBin P .sub t (.int k a) (.int k b) = some (.int k (k.wrap (a - b)))) ∧
 (∀ t k a b, aBin P .mul t (.int k a) (.int k b) = some (.int k (k.wrap (a * b)))) ∧
 (∀ t k a b, aBin P .eql t (.int k a) (.int k b) = some (.bool (a == b))) ∧ (∀ t k a b, aBin P .neq t (.int k a) (.int k b) = some (.bool (a != b))) ∧
 (∀ t k a b, aBin P .lss t (.int k a) (.int k b) = some (.bool (decide (a < b)))) ∧ (∀ t k a b, aBin P .leq t (.int k a) (.int k b) = some (.bool (decide (a ≤ b)))) ∧
 (∀ t k a b, aBin P .gtr t (.int k a) (.int k b) = some (.bool (decide (b < a)))) ∧ (∀ t k a b, aBin P .geq t (.int k a) (.int k b) = some (.bool (decide (b ≤ a)))) ∧
 (∀ (t : TypeId) (a b : ByteArray), aBin P .eql t (.string a) (.string b) = some (.bool (a.toList == b.toList))) ∧ (∀ t a b, aBin P .neq t (.string a) (.string b) = some (.bool (!(a.toList == b.toList)))) ∧
 (∀ t a b, aBin P .add t (.string a) (.string b) = if a.size + b.size < 4611686018427387904 then some (.string (a ++ b)) else none) ∧
 (∀ b, aUn .not (.bool b) = some (.bool (!b))) ∧
 (∀ (A : AH) (t : TypeId) (s : ByteArray), aLen P A t (.string s) = if tKind P t = some .str then some (.int .i64 s.size) else none) ∧
 (∀ A t a n c, aLen P A t (.slice a n c) = if tKind P t = some .slice then some (.int .i64 n) else none) ∧
 (∀ A a n, aLoadK A a (some true) n = n.bind fun n => (aRow A a n).map fun cs => .agg cs.toArray) ∧ (∀ A a n, aLoadK A a (some false) n = aCell A a) :=
 ⟨fun _ _ _ _ _ _ => rfl, fun _ _ _ _ _ => rfl, fun _ _ _ _ _ => rfl, fun _ _ _ _ _ => rfl, fun _ _ _ _ _ _ _ => rfl, fun _ _ _ _ _ => rfl, fun _ _ _ _ _ => rfl, fun _ _ _ _ _ _ _ => rfl, fun _ _ _ _ => rfl, fun _ _ _ _ _ _ => rfl,
  fun _ _ _ v _ _ => by cases v <;> rfl, fun _ _ _ v _ _ => by cases v <;> rfl, fun _ _ _ v _ => by cases v <;> rfl, fun _ _ _ v _ => by cases v <;> rfl, fun _ _ _ v _ => by cases v <;> rfl, fun _ _ _ v _ _ _ => by cases v <;> rfl,
  fun _ _ _ v _ => by cases v <;> rfl, fun _ _ _ v => by cases v <;> rfl, fun _ _ _ v _ => by cases v <;> rfl, fun _ _ x _ => by cases x <;> rfl, rfl, rfl, aBin_ifq, aBin_ifn,
  fun _ k a b => by simp [aBin, aInt], fun _ k a b => by simp [aBin, aInt], fun _ k a b => by simp [aBin, aInt], fun _ k a b => by simp [aBin, aInt], fun _ k a b => by simp [aBin, aInt], fun _ k a b => by simp [aBin, aInt],
  fun _ k a b => by simp [aBin, aInt], fun _ k a b => by simp [aBin, aInt], fun _ k a b => by simp [aBin, aInt], fun _ _ _ => rfl, fun _ _ _ => rfl, fun _ _ _ => rfl, fun _ => rfl,
  fun A t s => by unfold aLen; cases tKind P t with | none => simp | some k => cases k <;> simp, fun A t a n c => by unfold aLen; cases tKind P t with | none => simp | some k => cases k <;> simp,
  fun A a n => by cases n <;> rfl, fun A a n => by cases n <;> rfl⟩
end Go.AM
namespace Go.AM
open Go
def isCallV : Op → Bool
 | .call c => match c.callee with | .value _ => true | _ => false
 | _ => false
def isPanic : Op → Bool
 | .panic _ => true
 | _ => false
def drawFree (ops : Array Oper) (fl : List Nat) : Bool :=
 drawOk ops && (List.range ops.size).all fun i => !isPanic (opAt ops i) && (!isEff (opAt ops i) || !freeReads ops i || fl.elem i)
def callsWait (ops : Array Oper) : Bool := (List.range ops.size).all fun i => !isCallV (opAt ops i) || allWait ops i
def restX (A : AH) (rest : Rest) : Rest := fun i e A1 => (∀ b, b < A.size → A1.get b = A.get b) ∧ rest i e A1
def restF (fl : List Nat) (i : Nat) (A : AH) (rest : Rest) : Rest := if fl.elem i then restX A rest else rest
def RunG (P : Program) (ro : Nat) (X : FuncId → List Value → AH → ARes → AH → Prop) (ops : Array Oper) (fl : List Nat) (Q : Post) : List Oper → Rest
 | [], _, e, A => Q .normal e A
 | o :: os, i, e, A =>
   RunW (RunG P ro X ops fl Q os) o i e A (RunOp P ro X ops none Q o (restF fl i A (RunG P ro X ops fl Q os)) i e A) (aWanted ops o e)
section
variable {P : Program} {ro : Nat} {X : FuncId → List Value → AH → ARes → AH → Prop} {Q : Post}
theorem RunG.sound {ops : Array Oper} {fl : List Nat} (hk : drawFree ops fl = true) (hp : callsWait ops = true ∨ ∀ v e A, ¬ Q (.pan v) e A) : ∀ (os : List Oper) (i : Nat) (e : Env) (A : AH), os = ops.toList.drop i → RunG P ro X ops fl Q os i e A →
 WpOps P ro X ops (some fun _ => True) (List.range' i os.length) e A Q := by
 intro os
 induction os with
 | nil => intro i e A _ h; exact WpOps.nil h
 | cons o os ih =>
   intro i e A hos h
   have ho : ops[i]? = some o := by
    have := congrArg (·[0]?) hos
    simpa using this.symm
   have hos' : os = ops.toList.drop (i + 1) := by
    have := congrArg (List.drop 1) hos
    simpa [List.drop_drop, Nat.add_comm] using this
   have hi : i < ops.size := by
    rcases Nat.lt_or_ge i ops.size with h' | h'
    ·exact h'
    ·rw [Array.getElem?_eq_none h'] at ho; cases ho
   have hat : opAt ops i = o.op := by simp [opAt, ho]
   have hk2 := hk
   unfold drawFree at hk2
   rw [Bool.and_eq_true] at hk2
   have hkk := List.all_eq_true.1 hk2.2 i (List.mem_range.2 hi)
   rw [hat, Bool.and_eq_true] at hkk
   have held : ∀ (e e' : Env) (A A1 : AH) (rest : Rest), restF fl i A rest (i + 1) e' A1 → Held ops (some fun _ => True) i o.op e A A1 ∧ rest (i + 1) e' A1 := by
    intro e e' A A1 rest hr
    unfold restF at hr
    by_cases hf : fl.elem i = true
    ·rw [if_pos hf] at hr
     refine ⟨fun S hS => ?_, hr.2⟩
     cases hS
     exact ⟨fun _ _ _ => trivial, fun _ _ b hb _ => hr.1 b hb⟩
    ·rw [if_neg hf] at hr
     refine ⟨fun S hS => ?_, hr⟩
     cases hS
     refine ⟨fun _ _ _ => trivial, fun h1 h2 => ?_⟩
     rw [h1, h2] at hkk
     simp only [Bool.not_true, Bool.false_or] at hkk
     exact absurd hkk.2 hf
   rw [List.length_cons, List.range'_succ]
   simp only [RunG] at h
   cases hw : aWanted ops o e with
   | false =>
     rw [hw] at h
     simp only [RunW] at h
     obtain ⟨x, e', A', hb2, hq2⟩ := ih _ _ _ hos' h
     exact ⟨x, e', A', .pass ho hw hb2, hq2⟩
   | true =>
     rw [hw] at h
     simp only [RunW, RunOp] at h
     cases ht : aTarget e o.op with
     | some fa =>
       obtain ⟨f, args⟩ := fa
       rw [ht] at h
       obtain ⟨r, A1, hb, hq⟩ := h
       cases r with
       | ret v =>
         simp only [RunK] at hq
         obtain ⟨hd, hq⟩ := held e _ _ _ _ hq.2
         obtain ⟨x, e', A', hb2, hq2⟩ := ih _ _ _ hos' hq
         exact ⟨x, e', A', .call ho hw ht hb hd hb2, hq2⟩
       | pan v =>
         rcases hp with hp | hp
         ·refine ⟨_, _, _, .callp ho hw ht hb (fun _ => ?_), hq.2⟩
          have := List.all_eq_true.1 hp i (List.mem_range.2 hi)
          rw [hat] at this
          have hc : isCallV o.op = true := by
           cases hop : o.op <;> rw [hop] at ht <;> simp only [aTarget] at ht <;> try (cases ht; done)
           split at ht
           ·rename_i hc; simp [isCallV, hc]
           ·cases ht
          simpa [hc] using this
         ·exact absurd hq.2 (hp _ _ _)
     | none =>
       rw [ht] at h
       simp only [RunT] at h
       cases hpn : aPanic e o.op with
       | some v =>
         cases hop : o.op <;> simp only [hop, aPanic] at hpn <;> try (cases hpn; done)
         rw [hop] at hkk
         simp [isPanic] at hkk
       | none =>
         rw [hpn] at h
         simp only [RunP] at h
         cases hv : aOp P ro A.size o.op e A with
         | none => rw [hv] at h; exact h.elim
         | some va =>
           obtain ⟨v, A1⟩ := va
           rw [hv] at h
           obtain ⟨hd, hq⟩ := held e _ _ _ _ h.2
           obtain ⟨x, e', A', hb2, hq2⟩ := ih _ _ _ hos' hq
           exact ⟨x, e', A', .op ho hw hv hd hb2, hq2⟩
theorem Wp.runG {id : Nat} {ops : Array Oper} {e : Env} {A : AH} (fl : List Nat) (hk : drawFree ops fl = true) (hp : callsWait ops = true ∨ ∀ v e A, ¬ Q (.pan v) e A) (h : RunG P ro X ops fl Q ops.toList 0 e A) :
 Wp P ro X (.region id ops true) e A Q := by
 have := RunG.sound hk hp ops.toList 0 e A (by simp) h
 have hk2 := hk
 unfold drawFree at hk2
 rw [Bool.and_eq_true] at hk2
 refine Wp.drawn (fun _ => True) rfl hk2.1 ?_
 simpa [List.range_eq_range'] using this
end
theorem amG (P : Program) (ro : Nat) (X : FuncId → List Value → AH → ARes → AH → Prop) :
 (∀ ops fl Q i e A, RunG P ro X ops fl Q [] i e A = Q .normal e A) ∧
 (∀ ops fl Q o os i e A, RunG P ro X ops fl Q (o :: os) i e A = RunW (RunG P ro X ops fl Q os) o i e A (RunOp P ro X ops none Q o (restF fl i A (RunG P ro X ops fl Q os)) i e A) (aWanted ops o e)) ∧
 (∀ fl i A rest j e A1, restF fl i A rest j e A1 = if fl.elem i then (∀ b, b < A.size → A1.get b = A.get b) ∧ rest j e A1 else rest j e A1) :=
 ⟨fun _ _ _ _ _ _ => rfl, fun _ _ _ _ _ _ _ _ => rfl, fun fl i A rest j e A1 => by unfold restF; split <;> rfl⟩
theorem AH.zN (A : AH) (o : AObj) : (A.new o).size = A.size + 1 := rfl
theorem AH.zP (A : AH) (b : Nat) (o : AObj) : (A.put b o).size = A.size := rfl
theorem AH.gNs (A : AH) (o : AObj) : (A.new o).get A.size = o := if_pos rfl
theorem AH.gNo {A : AH} {o : AObj} {b : Nat} (h : b ≠ A.size) : (A.new o).get b = A.get b := if_neg h
theorem AH.gPs (A : AH) (b : Nat) (o : AObj) : (A.put b o).get b = o := if_pos rfl
theorem AH.gPo {A : AH} {o : AObj} {b b' : Nat} (h : b' ≠ b) : (A.put b o).get b' = A.get b' := if_neg h
structure Ext (A A' : AH) : Prop where
 size : A.size ≤ A'.size
 get : ∀ b, b < A.size → A'.get b = A.get b
theorem Ext.refl (A : AH) : Ext A A := ⟨Nat.le_refl _, fun _ _ => rfl⟩
theorem Ext.trans {A A' A'' : AH} (h : Ext A A') (k : Ext A' A'') : Ext A A'' :=
 ⟨Nat.le_trans h.size k.size, fun b hb => (k.get b (Nat.lt_of_lt_of_le hb h.size)).trans (h.get b hb)⟩
theorem Ext.new (A : AH) (o : AObj) : Ext A (A.new o) := ⟨Nat.le_succ _, fun b hb => AH.gNo (by omega)⟩
theorem Ext.put {A A' : AH} (h : Ext A A') {b : Nat} (hb : A.size ≤ b) (o : AObj) : Ext A (A'.put b o) :=
 ⟨h.size, fun b' hb' => (AH.gPo (by omega)).trans (h.get b' hb')⟩
structure Sl where
 nl : Bool
 b : Nat
 o : Nat
 len : Nat
 cap : Nat
def Sl.v (s : Sl) : Value := .slice (if s.nl then none else some ⟨s.b, s.o, none⟩) s.len s.cap
def Sl.nil : Sl := ⟨true, 0, 0, 0, 0⟩
theorem Sl.v_nil : Sl.nil.v = .slice none 0 0 := rfl
class Dat (α : Type) where
 w : Nat
 rep : AH → α → List Value → List Nat → Prop
 len : ∀ {A x cs F}, rep A x cs F → cs.length = w
 frame : ∀ {A A' : AH} {x cs F}, rep A x cs F → (∀ b, b ∈ F → A'.get b = A.get b ∧ b < A'.size) → rep A' x cs F
 bound : ∀ {A x cs F}, rep A x cs F → ∀ b, b ∈ F → b < A.size
inductive Reps {α : Type} [Dat α] (A : AH) : List α → List Value → List Nat → Prop
 | nil : Reps A [] [] []
 | cons {x : α} {l : List α} {c cs : List Value} {F G : List Nat} (h : Dat.rep A x c F) (k : Reps A l cs G) : Reps A (x :: l) (c ++ cs) (F ++ G)
section
variable {α : Type} [Dat α]
theorem Reps.length {A : AH} {l : List α} {cs : List Value} {F : List Nat} (h : Reps A l cs F) : cs.length = l.length * Dat.w α := by
 induction h with
 | nil => simp
 | cons h k ih => rw [List.length_append, ih, Dat.len h, List.length_cons, Nat.succ_mul, Nat.add_comm]
theorem Reps.frame {A A' : AH} {l : List α} {cs : List Value} {F : List Nat} (h : Reps A l cs F) (hF : ∀ b, b ∈ F → A'.get b = A.get b ∧ b < A'.size) : Reps A' l cs F := by
 induction h with
 | nil => exact .nil
 | cons h k ih => exact .cons (Dat.frame h fun b hb => hF b (List.mem_append_left _ hb)) (ih fun b hb => hF b (List.mem_append_right _ hb))
theorem Reps.bound {A : AH} {l : List α} {cs : List Value} {F : List Nat} (h : Reps A l cs F) : ∀ b, b ∈ F → b < A.size := by
 induction h with
 | nil => intro b hb; cases hb
 | cons h k ih => intro b hb; rcases List.mem_append.1 hb with hb | hb; exact Dat.bound h b hb; exact ih b hb
theorem Reps.append {A : AH} {l l' : List α} {cs cs' : List Value} {F F' : List Nat} (h : Reps A l cs F) (k : Reps A l' cs' F') : Reps A (l ++ l') (cs ++ cs') (F ++ F') := by
 induction h with
 | nil => exact k
 | cons h _ ih => rw [List.cons_append, List.append_assoc, List.append_assoc]; exact .cons h ih
theorem Reps.one {A : AH} {x : α} {c : List Value} {F : List Nat} (h : Dat.rep A x c F) : Reps A [x] c F := by
 have := Reps.cons h (.nil (A := A) (α := α))
 simpa using this
theorem Reps.get {A : AH} {l : List α} {cs : List Value} {F : List Nat} (h : Reps A l cs F) : ∀ (i : Nat) (hi : i < l.length), ∃ Fi, Dat.rep A l[i] ((cs.drop (i * Dat.w α)).take (Dat.w α)) Fi ∧ ∀ b, b ∈ Fi → b ∈ F := by
 induction h with
 | nil => intro i hi; simp at hi
 | cons h k ih =>
   rename_i x l c cs F G
   intro i hi
   have hl := Dat.len h
   cases i with
   | zero => exact ⟨F, by simpa [List.take_append_of_le_length (Nat.le_of_eq hl.symm), ← hl] using h, fun b hb => List.mem_append_left _ hb⟩
   | succ i =>
     obtain ⟨Fi, h1, h2⟩ := ih i (by simpa using hi)
     refine ⟨Fi, ?_, fun b hb => List.mem_append_right _ (h2 b hb)⟩
     rw [List.drop_append, List.drop_eq_nil_of_le (by rw [hl, Nat.succ_mul]; omega), List.nil_append, hl, show (i + 1) * Dat.w α - Dat.w α = i * Dat.w α by rw [Nat.succ_mul]; omega]
     simpa using h1
structure InB (A : AH) (s : Sl) (l : List α) (F : List Nat) : Prop where
 nl : s.nl = false
 lt : s.b < A.size
 len : s.len = l.length
 cap : s.cap = BIG ∨ (s.len ≤ s.cap ∧ s.cap < BIG)
 row : ∃ c cs G, A.get s.b = .cells c (Dat.w α) ∧ s.o + s.len * Dat.w α ≤ c.length ∧ (c.drop s.o).take (s.len * Dat.w α) = cs ∧ Reps A l cs G ∧ F = s.b :: G
inductive SlR (A : AH) (s : Sl) (l : List α) (F : List Nat) : Prop
 | nil (h : s = .nil) (hl : l = []) (hF : F = [])
 | empty (h : s.nl = false) (hn : s.len = 0) (hc : s.cap < BIG) (hl : l = []) (hF : F = [])
 | inB (h : InB A s l F)
end
instance : Dat Int where
 w := 1
 rep _ x cs F := cs = [.int .i64 x] ∧ F = []
 len h := by rw [h.1]; rfl
 frame h _ := h
 bound h b hb := by rw [h.2] at hb; cases hb
instance : Dat Bool where
 w := 1
 rep _ x cs F := cs = [.bool x] ∧ F = []
 len h := by rw [h.1]; rfl
 frame h _ := h
 bound h b hb := by rw [h.2] at hb; cases hb
instance : Dat UInt8 where
 w := 1
 rep _ x cs F := cs = [.int .u8 x.toNat] ∧ F = []
 len h := by rw [h.1]; rfl
 frame h _ := h
 bound h b hb := by rw [h.2] at hb; cases hb
instance : Dat ByteArray where
 w := 1
 rep _ x cs F := cs = [.string x] ∧ F = [] ∧ x.size < BIG
 len h := by rw [h.1]; rfl
 frame h _ := h
 bound h b hb := by rw [h.2.1] at hb; cases hb
instance {α β : Type} [Dat α] [Dat β] : Dat (α × β) where
 w := Dat.w α + Dat.w β
 rep A x cs F := ∃ c d G H, cs = c ++ d ∧ F = G ++ H ∧ Dat.rep A x.1 c G ∧ Dat.rep A x.2 d H
 len h := by obtain ⟨c, d, G, H, rfl, rfl, h1, h2⟩ := h; rw [List.length_append, Dat.len h1, Dat.len h2]
 frame h hF := by
  obtain ⟨c, d, G, H, rfl, rfl, h1, h2⟩ := h
  exact ⟨c, d, G, H, rfl, rfl, Dat.frame h1 fun b hb => hF b (List.mem_append_left _ hb), Dat.frame h2 fun b hb => hF b (List.mem_append_right _ hb)⟩
 bound h b hb := by
  obtain ⟨c, d, G, H, rfl, rfl, h1, h2⟩ := h
  rcases List.mem_append.1 hb with hb | hb
  ·exact Dat.bound h1 b hb
  ·exact Dat.bound h2 b hb
section
variable {α : Type} [Dat α]
theorem InB.frame {A A' : AH} {s : Sl} {l : List α} {F : List Nat} (h : InB A s l F) (hF : ∀ b, b ∈ F → A'.get b = A.get b ∧ b < A'.size) : InB A' s l F := by
 obtain ⟨h1, h2, h3, h4, c, cs, G, h5, h6, h7, h8, rfl⟩ := h
 exact ⟨h1, (hF _ (by simp)).2, h3, h4, c, cs, G, (hF _ (by simp)).1.trans h5, h6, h7, h8.frame fun b hb => hF b (List.mem_cons_of_mem _ hb), rfl⟩
theorem SlR.frame {A A' : AH} {s : Sl} {l : List α} {F : List Nat} (h : SlR A s l F) (hF : ∀ b, b ∈ F → A'.get b = A.get b ∧ b < A'.size) : SlR A' s l F := by
 cases h with
 | nil h hl hf => exact .nil h hl hf
 | empty h hn hc hl hf => exact .empty h hn hc hl hf
 | inB h => exact .inB (h.frame hF)
theorem SlR.bound {A : AH} {s : Sl} {l : List α} {F : List Nat} (h : SlR A s l F) : ∀ b, b ∈ F → b < A.size := by
 intro b hb
 cases h with
 | nil _ _ hf => rw [hf] at hb; cases hb
 | empty _ _ _ _ hf => rw [hf] at hb; cases hb
 | inB h =>
   obtain ⟨h1, h2, h3, h4, c, cs, G, h5, h6, h7, h8, rfl⟩ := h
   rcases List.mem_cons.1 hb with rfl | hb
   ·exact h2
   ·exact h8.bound b hb
theorem SlR.ext {A A' : AH} {s : Sl} {l : List α} {F : List Nat} (h : SlR A s l F) (hE : Ext A A') : SlR A' s l F :=
 h.frame fun b hb => ⟨hE.get b (h.bound b hb), Nat.lt_of_lt_of_le (h.bound b hb) hE.size⟩
theorem SlR.len {A : AH} {s : Sl} {l : List α} {F : List Nat} (h : SlR A s l F) : s.len = l.length := by
 cases h with
 | nil h hl _ => rw [h, hl]; rfl
 | empty _ hn _ hl _ => rw [hn, hl]; rfl
 | inB h => exact h.len
theorem SlR.at {A : AH} {s : Sl} {l : List α} {F : List Nat} (h : SlR A s l F) {i : Nat} (hi : i < l.length) : s.nl = false ∧ s.b < A.size ∧ ∃ c Fi, A.get s.b = .cells c (Dat.w α) ∧ s.o + s.len * Dat.w α ≤ c.length ∧
 s.o + i * Dat.w α + Dat.w α ≤ c.length ∧ Dat.rep A l[i] ((c.drop (s.o + i * Dat.w α)).take (Dat.w α)) Fi ∧ s.b ∈ F ∧ ∀ b, b ∈ Fi → b ∈ F := by
 cases h with
 | nil _ hl _ => subst hl; simp at hi
 | empty _ _ _ hl _ => subst hl; simp at hi
 | inB h =>
   obtain ⟨h1, h2, h3, h4, c, cs, G, h5, h6, h7, h8, rfl⟩ := h
   obtain ⟨Fi, g1, g2⟩ := h8.get i hi
   have hle : i * Dat.w α + Dat.w α ≤ s.len * Dat.w α := by rw [← Nat.succ_mul, h3]; exact Nat.mul_le_mul_right _ hi
   refine ⟨h1, h2, c, Fi, h5, h6, by omega, ?_, by simp, fun b hb => List.mem_cons_of_mem _ (g2 b hb)⟩
   rw [← h7, List.drop_take, List.take_take, List.drop_drop] at g1
   rw [Nat.min_eq_left (by omega)] at g1
   exact g1
theorem Sl.v_len (P : Program) (A : AH) (s : Sl) (t : TypeId) : aLen P A t s.v = if tKind P t = some .slice then some (.int .i64 s.len) else none := by
 unfold Sl.v aLen
 cases tKind P t with
 | none => simp
 | some k => cases k <;> simp
theorem aRow_get {A : AH} {b o n e : Nat} {c : List Value} (h : A.get b = .cells c e) (hl : o + n ≤ c.length) : aRow A ⟨b, o, none⟩ n = some ((c.drop o).take n) := by
 unfold aRow
 simp [h, hl]
theorem aCell_row {A : AH} {b o n j : Nat} {cs : List Value} (h : aRow A ⟨b, o, none⟩ n = some cs) (hj : j < n) : aCell A ⟨b, o + j, none⟩ = cs[j]? := by
 unfold aRow at h
 unfold aCell
 simp only at h ⊢
 cases hg : A.get b with
 | dead => rw [hg] at h; cases h
 | map es => rw [hg] at h; cases h
 | cells c e =>
   rw [hg] at h
   simp only at h ⊢
   split at h
   ·cases h; rw [List.getElem?_take, if_pos hj, List.getElem?_drop]
   ·cases h
theorem SlR.row {A : AH} {s : Sl} {l : List α} {F : List Nat} (h : SlR A s l F) {i : Nat} (hi : i < l.length) : s.nl = false ∧ s.b < A.size ∧ s.b ∈ F ∧ i < s.len ∧
 ∃ cs Fi, aRow A ⟨s.b, s.o + i * Dat.w α, none⟩ (Dat.w α) = some cs ∧ Dat.rep A l[i] cs Fi ∧ ∀ b, b ∈ Fi → b ∈ F := by
 obtain ⟨h1, h2, c, Fi, h3, _, h5, h6, h7, h8⟩ := h.at hi
 exact ⟨h1, h2, h7, by rw [h.len]; exact hi, _, Fi, aRow_get h3 h5, h6, h8⟩
theorem SlR.row1 {A : AH} {s : Sl} {l : List α} {F : List Nat} (h : SlR A s l F) (hw : Dat.w α = 1) {i : Nat} (hi : i < l.length) : s.nl = false ∧ s.b < A.size ∧ s.b ∈ F ∧ i < s.len ∧
 ∃ v Fi, aCell A ⟨s.b, s.o + i, none⟩ = some v ∧ Dat.rep A l[i] [v] Fi ∧ ∀ b, b ∈ Fi → b ∈ F := by
 obtain ⟨h1, h2, h3, h4, cs, Fi, h5, h6, h7⟩ := h.row hi
 have hl := Dat.len h6
 rw [hw] at hl h5
 match cs, hl with
 | [v], _ =>
   have := aCell_row h5 (j := 0) (by omega)
   exact ⟨h1, h2, h3, h4, v, Fi, by simpa using this, h6, h7⟩
theorem SlR.str {A : AH} {s : Sl} {l : List ByteArray} {F : List Nat} (h : SlR A s l F) {i : Nat} (hi : i < l.length) : s.nl = false ∧ s.b < A.size ∧ s.b ∈ F ∧ i < s.len ∧
 aCell A ⟨s.b, s.o + i, none⟩ = some (.string l[i]) ∧ l[i].size < BIG := by
 obtain ⟨h1, h2, h3, h4, v, Fi, h5, ⟨h6, _, h8⟩, _⟩ := h.row1 rfl hi
 cases h6
 exact ⟨h1, h2, h3, h4, h5, h8⟩
end
instance {α : Type} [Dat α] : Dat (List α) where
 w := 1
 rep A l cs F := ∃ s : Sl, cs = [s.v] ∧ SlR A s l F
 len h := by obtain ⟨s, rfl, _⟩ := h; rfl
 frame h hF := by obtain ⟨s, rfl, h⟩ := h; exact ⟨s, rfl, h.frame hF⟩
 bound h := by obtain ⟨s, rfl, h⟩ := h; exact h.bound
end Go.AM
namespace Go.AM
open Go
def endV (R : ARes → AH → Prop) (A : AH) : Option (List Value) → Prop
 | some vs => R (.ret (aTup vs)) A
 | none => False
def endQ (P : Program) (rs : List ResultVar) (R : ARes → AH → Prop) : Post
 | .normal, e, A => endV R A (aResVals P A e rs)
 | .ret, e, A => endV R A (aResVals P A e rs)
 | .pan v, _, A => R (.pan v) A
 | .exit _, _, _ => False
theorem ACalls.enterQ {P : Program} {ro : Nat} {X : FuncId → List Value → AH → ARes → AH → Prop} {f : FuncId} {args : List Value} {fn : Func} {c : Code} {A : AH} {R : ARes → AH → Prop} {rs : List ResultVar}
 (hf : P.funcs[f]? = some fn) (hb : fn.body = some c) (hd : (dstsOk fn.ntmps P.globals.size c && decide (args.length ≤ fn.ntmps) && !(fn.name == "runtime.NumGoroutine")) = true) (hr : fn.results.toList = rs)
 (h : RunC P ro X c (endQ P rs R) (Env.enter args) A) : ACalls P ro X f args A R := by
 simp only [Bool.and_eq_true, decide_eq_true_eq, Bool.not_eq_true'] at hd
 refine ACalls.func hf hb hd.2 hd.1.1 hd.1.2 ((RunC.sound _ _ _ _ h).mono fun x e' A' hq => ?_)
 subst hr
 have key : endV R A' (aResVals P A' e' fn.results.toList) → ∃ v, aResults P A' e' fn = some v ∧ R (.ret v) A' := by
  intro hq
  unfold aResults
  cases hv : aResVals P A' e' fn.results.toList with
  | none => rw [hv] at hq; exact hq.elim
  | some vs => rw [hv] at hq; exact ⟨_, rfl, hq⟩
 cases x with
 | normal => exact key hq
 | ret => exact key hq
 | exit id => exact hq
 | pan v => exact hq
def resCell (P : Program) (A : AH) (t : TypeId) (r : Option (List Value)) : Value → Option (List Value)
 | .pointer (some p) => (aLoadK A p (tAgg P t) (tSize P t)).bind fun v => r.map (v :: ·)
 | _ => none
theorem aResVals_cell (P : Program) (A : AH) (e : Env) (a : Tmp) (t : TypeId) (r : List ResultVar) : aResVals P A e (.cell a t :: r) = resCell P A t (aResVals P A e r) (e a) := by
 simp only [aResVals]
 cases e a <;> try rfl
 rename_i p
 cases p with
 | none => rfl
 | some p =>
   simp only [resCell, ← aLoad_eq]
   cases aLoad P A t p <;> rfl
def cellK (o : Nat) : AObj → Option Value
 | .cells c _ => c[o]?
 | _ => none
def rowK (o n : Nat) : AObj → Option (List Value)
 | .cells c _ => if o + n ≤ c.length then some ((c.drop o).take n) else none
 | _ => none
theorem aCell_eq (A : AH) (b o : Nat) : aCell A ⟨b, o, none⟩ = cellK o (A.get b) := by
 unfold aCell cellK
 cases A.get b <;> rfl
theorem aRow_eq (A : AH) (b o n : Nat) : aRow A ⟨b, o, none⟩ n = rowK o n (A.get b) := by
 unfold aRow rowK
 cases A.get b <;> rfl
def allocK (t : TypeId) (nx : Nat) (A : AH) : Option (List Value) → Option Nat → Option (Value × AH)
 | some z, some n => some (.pointer (some ⟨nx, 0, none⟩), A.newAt nx (.cells z (allocE t n (isBld z))))
 | _, _ => none
theorem isBld_sl (s : Sl) (l : List Value) : isBld (s.v :: l) = false := by
 unfold Sl.v
 cases s.nl <;> rfl
def boxK (nx : Nat) (A : AH) : Option (List Value) → Option Nat → Option (Value × AH)
 | some z, some n => some (.pointer (some ⟨nx, 0, none⟩), A.newAt nx (.cells z (n % 1099511627776)))
 | _, _ => none
theorem aOp_alloc (P : Program) (ro nx : Nat) (t : TypeId) (e : Env) (A : AH) : aOp P ro nx (.alloc t) e A = allocK t nx A ((tZero P t).bind acells) (tSize P t) := by
 simp only [aOp]
 cases (tZero P t).bind acells <;> cases tSize P t <;> rfl
theorem aOp_box (P : Program) (ro nx : Nat) (t : TypeId) (x : Operand) (e : Env) (A : AH) : aOp P ro nx (.box t x) e A = boxK nx A (acells (e.eval x)) (tSize P t) := by
 simp only [aOp]
 cases acells (e.eval x) <;> cases tSize P t <;> rfl
def buildK (A : AH) (ps : List (Nat × Value)) : Option (List (Nat × Nat)) → Option (List Value) → Option (Value × AH)
 | some q, some z => (aFill q z ps).map fun cs => (.agg cs.toArray, A)
 | _, _ => none
theorem aOp_build (P : Program) (ro nx : Nat) (t : TypeId) (ps : Array (Nat × Operand)) (e : Env) (A : AH) :
 aOp P ro nx (.build t ps) e A = buildK A (ps.toList.map fun x => (x.1, e.eval x.2)) (tPlaces P t) ((tZero P t).bind acells) := by
 simp only [aOp]
 cases tPlaces P t <;> cases (tZero P t).bind acells <;> rfl
def buildSliceK (nx : Nat) (A : AH) (len : Nat) (ps : List (Nat × Value)) (sz : Nat) : Option (List Value) → Option (Value × AH)
 | some z => if len * sz ≤ 16777216 ∧ z.length = sz ∧ len ≤ 16777216 then
  (aFill ((List.range len).map fun i => (i * sz, sz)) (List.replicate len z).flatten ps).map fun cs => (.slice (some ⟨nx, 0, none⟩) len len, A.newAt nx (.cells cs sz))
   else none
 | none => none
theorem aOp_buildSlice (P : Program) (ro nx : Nat) (t : TypeId) (len : Nat) (ps : Array (Nat × Operand)) (e : Env) (A : AH) : aOp P ro nx (.buildSlice t len ps) e A =
 (tElem P t).bind fun el => (tElemSize P t).bind fun sz => buildSliceK nx A len (ps.toList.map fun x => (x.1, e.eval x.2)) sz ((tZero P el).bind acells) := by
 simp only [aOp]
 cases tElem P t <;> cases tElemSize P t <;> rfl
def fillK (places : List (Nat × Nat)) (cells : List Value) (rest : List (Nat × Value)) : Option (Nat × Nat) → Option (List Value) → Option (List Value)
 | some (off, size), some vs => if vs.length = size ∧ off + size ≤ cells.length then aFill places (setCells cells off vs) rest else none
 | _, _ => none
theorem aFill_cons (places : List (Nat × Nat)) (cells : List Value) (i : Nat) (v : Value) (rest : List (Nat × Value)) :
 aFill places cells ((i, v) :: rest) = fillK places cells rest places[i]? (acells v) := by
 simp only [aFill]
 cases places[i]? <;> cases acells v <;> rfl
def ifaceK (A : AH) (t : TypeId) (v : Value) (r : Option (List Value)) : Option Kind → Option (Value × AH)
 | some .iface => none
 | some _ => r.map fun _ => (.iface t v, A)
 | none => none
theorem aOp_iface (P : Program) (ro nx : Nat) (t : TypeId) (x : Operand) (e : Env) (A : AH) : aOp P ro nx (.makeInterface t x) e A = ifaceK A t (e.eval x) (acells (e.eval x)) (tKind P t) := by
 simp only [aOp, plain]
 cases tKind P t with
 | none => rfl
 | some k => rcases Option.eq_none_or_eq_some (acells (e.eval x)) with hr | ⟨l, hr⟩ <;> cases k <;> simp [ifaceK, hr]
def nilK (A : AH) : Value → Option (Value × AH)
 | .pointer (some a) => some (.pointer (some a), A)
 | .func (.func f) x y => some (.func (.func f) x y, A)
 | _ => none
theorem aOp_nil (P : Program) (ro nx : Nat) (x : Operand) (e : Env) (A : AH) : aOp P ro nx (.nilCheck x) e A = nilK A (e.eval x) := by
 simp only [aOp]
 rfl
def fieldRow (A : AH) (cs : List Value) (off : Nat) : Option Bool → Option Nat → Option (Value × AH)
 | some true, some n => if off + n ≤ cs.length then some (.agg ((cs.drop off).take n).toArray, A) else none
 | some false, _ => (cs[off]?).map fun v => (v, A)
 | _, _ => none
def fieldK (P : Program) (A : AH) : Option (Nat × TypeId) → Value → Option (Value × AH)
 | some (off, ft), .agg cs => fieldRow A cs.toList off (tAgg P ft) (tSize P ft)
 | _, _ => none
theorem aOp_field (P : Program) (ro nx : Nat) (t : TypeId) (x : Operand) (f : Nat) (e : Env) (A : AH) : aOp P ro nx (.field t x f) e A = fieldK P A (tField P t f) (e.eval x) := by
 simp only [aOp]
 cases tField P t f with
 | none => cases e.eval x <;> rfl
 | some q =>
   obtain ⟨off, ft⟩ := q
   cases e.eval x <;> rfl
def bget (s : ByteArray) (i : Nat) : UInt8 := s.data.getD i 0
theorem aIndex_str (P : Program) (t : TypeId) (s : ByteArray) (k : IntKind) (i : Int) (h0 : 0 ≤ i) (h1 : i < s.size) :
 aIndex P t (.string s) (.int k i) = if tKind P t = some .str then some (.int .u8 (bget s i.toNat).toNat) else none := by
 unfold aIndex
 have hlt : i.toNat < s.data.size := by have : s.size = s.data.size := rfl; omega
 cases tKind P t with
 | none => simp
 | some q => cases q <;> simp [h0, bget, Array.getD_eq_getD_getElem?, Array.getElem?_eq_getElem hlt]
def strSl (s : ByteArray) : Option Nat → Option Nat → Option Value
 | some l, some h => if l ≤ h ∧ h ≤ s.size then some (.string (s.extract l h)) else none
 | _, _ => none
theorem aSlice_s (P : Program) (A : AH) (t : TypeId) (s : ByteArray) (lo hi : Option Value) :
 aSlice P A t (.string s) lo hi none = if tKind P t = some .str then strSl s (aBound lo 0) (aBound hi s.size) else none := by
 unfold aSlice
 cases tKind P t with
 | none => simp
 | some q => cases q <;> simp [strSl] <;> cases aBound lo 0 <;> cases aBound hi s.size <;> rfl
theorem Sl.v_addrI (P : Program) (t : TypeId) (s : Sl) (k : IntKind) (i : Int) (h : 0 ≤ i ∧ i < s.len) :
 aIndexAddr P t s.v (.int k i) = if s.nl = false then (tElemSize P t).bind fun w => some (.pointer (some ⟨s.b, s.o + i.toNat * w, none⟩)) else none := by
 unfold Sl.v aIndexAddr
 cases hn : s.nl with
 | true => simp
 | false => cases tElemSize P t <;> simp [h.1, h.2, Addr.add]
def makeK (nx : Nat) (A : AH) (n : Nat) (sz : Nat) : Option (List Value) → Option (Value × AH)
 | some z => if z.length = sz then some (.slice (some ⟨nx, 0, none⟩) n n, A.newAt nx (.cells (List.replicate n z).flatten sz)) else none
 | none => none
theorem aMakeSlice_eq (P : Program) (nx : Nat) (A : AH) (t : TypeId) (k k' : IntKind) (l : Int) (h : 0 ≤ l ∧ l < 4294967296) :
 aMakeSlice P nx A t (.int k l) (.int k' l) = (tElem P t).bind fun e => (tElemSize P t).bind fun sz => makeK nx A l.toNat sz ((tZero P e).bind acells) := by
 unfold aMakeSlice
 cases tElem P t <;> cases tElemSize P t <;> try rfl
 simp only [Option.bind_some]
 rename_i e sz
 cases (tZero P e).bind acells <;> simp [makeK, LIM, h.1, h.2]
theorem str_inj {a b : ByteArray} (h : a.toList = b.toList) : a = b := by
 rw [ByteArray.toList_eq, ByteArray.toList_eq] at h
 cases a; cases b
 congr 1
 exact Array.toList_inj.1 h
theorem str_beq (a b : ByteArray) : (a.toList == b.toList) = decide (a = b) := by
 by_cases h : a = b
 ·subst h; simp
 ·have : ¬ a.toList = b.toList := fun e => h (str_inj e)
  rw [decide_eq_false h]
  exact beq_false_of_ne this
theorem str_dec (a b : ByteArray) : decide (a.toList = b.toList) = decide (a = b) := by
 by_cases h : a = b
 ·subst h; simp
 ·have : ¬ a.toList = b.toList := fun e => h (str_inj e)
  simp [h, this]
theorem amH :
 (∀ (A : AH) (o : AObj), (A.new o).size = A.size + 1) ∧ (∀ (A : AH) (b : Nat) (o : AObj), (A.put b o).size = A.size) ∧ (∀ (A : AH) (o : AObj), (A.new o).get A.size = o) ∧ (∀ {A : AH} {n : Nat} (o : AObj), (n ≤ A.size ∧ A.size ≤ n) → (A.new o).get n = o) ∧ (∀ (A : AH) (b : Nat) (o : AObj), (A.put b o).get b = o) ∧
 (∀ {A : AH} {n : Nat} (o : AObj), (n ≤ A.size ∧ A.size ≤ n) → A.newAt n o = A.new o) ∧
 (∀ {A : AH} {o : AObj} {b : Nat}, b ≠ A.size → (A.new o).get b = A.get b) ∧ (∀ {A : AH} {o : AObj} {b b' : Nat}, b' ≠ b → (A.put b o).get b' = A.get b') ∧
 (∀ n : Int, (-9223372036854775808 ≤ n ∧ n ≤ 9223372036854775807) → IntKind.i64.wrap n = n) ∧ (∀ n : Int, (0 ≤ n ∧ n ≤ 255) → IntKind.u8.wrap n = n) ∧ (∀ n : Int, (0 ≤ n ∧ n ≤ 18446744073709551615) → IntKind.u64.wrap n = n) ∧
 (∀ (P : Program) (t : TypeId) (s : Sl) (k : IntKind) (i : Int), (0 ≤ i ∧ i < s.len) →
   aIndexAddr P t s.v (.int k i) = if s.nl = false then (tElemSize P t).bind fun w => some (.pointer (some ⟨s.b, s.o + i.toNat * w, none⟩)) else none) ∧
 (∀ (P : Program) (t : TypeId) (b o n c : Nat) (k : IntKind) (i : Int), (0 ≤ i ∧ i < n) →
   aIndexAddr P t (Sl.mk false b o n c).v (.int k i) = (tElemSize P t).bind fun w => some (.pointer (some ⟨b, o + i.toNat * w, none⟩))) ∧
 (∀ (P : Program) (t : TypeId) (s : ByteArray) (k : IntKind) (i : Int), 0 ≤ i → i < s.size → aIndex P t (.string s) (.int k i) = if tKind P t = some .str then some (.int .u8 (bget s i.toNat).toNat) else none) ∧
 (∀ (P : Program) (nx : Nat) (A : AH) (t : TypeId) (k k' : IntKind) (l : Int), (0 ≤ l ∧ l < 4294967296) →
   aMakeSlice P nx A t (.int k l) (.int k' l) = (tElem P t).bind fun e => (tElemSize P t).bind fun sz => makeK nx A l.toNat sz ((tZero P e).bind acells)) ∧
 (∀ (ro : Nat) (A : AH) (b off e : Nat) (c vs : List Value) (n : Nat), ro ≤ b → aStoreK ro A ⟨b, off, none⟩ (.cells c e) (some vs) (some n) = if vs.length = n ∧ off + n ≤ c.length then some (A.put b (.cells (setCells c off vs) e)) else none) :=
 ⟨fun _ _ => rfl, fun _ _ _ => rfl, AH.gNs, fun {A n} o h => (by obtain rfl : n = A.size := Nat.le_antisymm h.1 h.2; exact AH.gNs _ o), AH.gPs, fun {A n} o h => (by obtain rfl : n = A.size := Nat.le_antisymm h.1 h.2; exact AH.newAt_self _ o), fun h => AH.gNo h, fun h => AH.gPo h, IntWalk.i64_in, IntWalk.u8_in, IntWalk.u64_in, fun P t s k i h => Sl.v_addrI P t s k i h,
  fun P t b o n c k i h => by rw [Sl.v_addrI P t _ k i h, if_pos rfl], fun P t s k i h0 h1 => aIndex_str P t s k i h0 h1, fun P nx A t k k' l h => aMakeSlice_eq P nx A t k k' l h, fun ro A b off e c vs n h => by simp [aStoreK, h]⟩
theorem amQ :
 (∀ P rs R e A, endQ P rs R .ret e A = endV R A (aResVals P A e rs)) ∧ (∀ P rs R e A, endQ P rs R .normal e A = endV R A (aResVals P A e rs)) ∧ (∀ P rs (R : ARes → AH → Prop) v e A, endQ P rs R (.pan v) e A = R (.pan v) A) ∧
 (∀ (R : ARes → AH → Prop) A vs, endV R A (some vs) = R (.ret (aTup vs)) A) ∧ (∀ v, aTup [v] = v) ∧ (∀ v u l, aTup (v :: u :: l) = .tuple (v :: u :: l).toArray) ∧
 (∀ P A e, aResVals P A e [] = some []) ∧ (∀ P A e t r, aResVals P A e (.tmp t :: r) = (aResVals P A e r).map (e t :: ·)) ∧ (∀ P A e a t r, aResVals P A e (.cell a t :: r) = resCell P A t (aResVals P A e r) (e a)) ∧
 (∀ P A t r p, resCell P A t r (.pointer (some p)) = (aLoadK A p (tAgg P t) (tSize P t)).bind fun v => r.map (v :: ·)) ∧
 (∀ (A : AH) (b o : Nat), aCell A ⟨b, o, none⟩ = cellK o (A.get b)) ∧ (∀ (A : AH) (b o n : Nat), aRow A ⟨b, o, none⟩ n = rowK o n (A.get b)) ∧ (∀ o c e, cellK o (.cells c e) = c[o]?) ∧
 (∀ o n c e, rowK o n (.cells c e) = if o + n ≤ c.length then some ((c.drop o).take n) else none) ∧
 (∀ P ro nx t e A, aOp P ro nx (.alloc t) e A = allocK t nx A ((tZero P t).bind acells) (tSize P t)) ∧ (∀ P ro nx t x e A, aOp P ro nx (.box t x) e A = boxK nx A (acells (e.eval x)) (tSize P t)) ∧
 (∀ t nx A z n, allocK t nx A (some z) (some n) = some (.pointer (some ⟨nx, 0, none⟩), A.newAt nx (.cells z (allocE t n (isBld z))))) ∧ (∀ t n, allocE t n true = 1099511627777 + 2 * t) ∧ (∀ t n, allocE t n false = n % 1099511627776) ∧ (isBld [] = false) ∧ (∀ b l, isBld (.bool b :: l) = false) ∧ (∀ k n l, isBld (.int k n :: l) = false) ∧ (∀ s l, isBld (.string s :: l) = false) ∧
 (∀ (s : Sl) l, isBld (s.v :: l) = false) ∧ (∀ m l, isBld (.map m :: l) = false) ∧ (∀ l, isBld (.nilFunc :: l) = false) ∧ (∀ l, isBld (.nilIface :: l) = false) ∧ (isBld [.pointer none] = false) ∧ (∀ b l, isBld (.pointer none :: .bool b :: l) = false) ∧
 (∀ k n l, isBld (.pointer none :: .int k n :: l) = false) ∧ (∀ s l, isBld (.pointer none :: .string s :: l) = false) ∧ (∀ m l, isBld (.pointer none :: .map m :: l) = false) ∧ (∀ p l, isBld (.pointer none :: .pointer p :: l) = false) ∧
 (∀ l, isBld (.pointer none :: .nilFunc :: l) = false) ∧ (∀ l, isBld (.pointer none :: .nilIface :: l) = false) ∧ (∀ v l, isBld (.pointer none :: Sl.nil.v :: v :: l) = false) ∧ (isBld [.pointer none, Sl.nil.v] = true) ∧ (∀ nx A z n, boxK nx A (some z) (some n) = some (.pointer (some ⟨nx, 0, none⟩), A.newAt nx (.cells z (n % 1099511627776)))) ∧
 (∀ P ro nx t ps e A, aOp P ro nx (.build t ps) e A = buildK A (ps.toList.map fun x => (x.1, e.eval x.2)) (tPlaces P t) ((tZero P t).bind acells)) ∧
 (∀ A ps q z, buildK A ps (some q) (some z) = (aFill q z ps).map fun cs => (.agg cs.toArray, A)) ∧
 (∀ P ro nx t len ps e A, aOp P ro nx (.buildSlice t len ps) e A = (tElem P t).bind fun el => (tElemSize P t).bind fun sz => buildSliceK nx A len (ps.toList.map fun x => (x.1, e.eval x.2)) sz ((tZero P el).bind acells)) ∧
 (∀ nx A len ps sz z, buildSliceK nx A len ps sz (some z) = if len * sz ≤ 16777216 ∧ z.length = sz ∧ len ≤ 16777216 then
   (aFill ((List.range len).map fun i => (i * sz, sz)) (List.replicate len z).flatten ps).map fun cs => (.slice (some ⟨nx, 0, none⟩) len len, A.newAt nx (.cells cs sz)) else none) ∧
 (∀ q z, aFill q z [] = some z) ∧ (∀ q z i v r, aFill q z ((i, v) :: r) = fillK q z r q[i]? (acells v)) ∧
 (∀ q z r off size vs, fillK q z r (some (off, size)) (some vs) = if vs.length = size ∧ off + size ≤ z.length then aFill q (setCells z off vs) r else none) ∧
 (∀ P ro nx t x e A, aOp P ro nx (.makeInterface t x) e A = ifaceK A t (e.eval x) (acells (e.eval x)) (tKind P t)) ∧ (∀ A t v r, ifaceK A t v (some r) (some .struct) = some (.iface t v, A)) ∧
 (∀ P ro nx x e A, aOp P ro nx (.nilCheck x) e A = nilK A (e.eval x)) ∧ (∀ A a, nilK A (.pointer (some a)) = some (.pointer (some a), A)) ∧ (∀ A f x y, nilK A (.func (.func f) x y) = some (.func (.func f) x y, A)) ∧
 (∀ P ro nx t x f e A, aOp P ro nx (.field t x f) e A = fieldK P A (tField P t f) (e.eval x)) ∧ (∀ P A off ft cs, fieldK P A (some (off, ft)) (.agg cs) = fieldRow A cs.toList off (tAgg P ft) (tSize P ft)) ∧
 (∀ A cs off n, fieldRow A cs off (some true) (some n) = if off + n ≤ cs.length then some (.agg ((cs.drop off).take n).toArray, A) else none) ∧ (∀ A cs off n, fieldRow A cs off (some false) n = (cs[off]?).map fun v => (v, A)) ∧
 (∀ P A t s lo hi, aSlice P A t (.string s) lo hi none = if tKind P t = some .str then strSl s (aBound lo 0) (aBound hi s.size) else none) ∧ (∀ s l h, strSl s (some l) (some h) = if l ≤ h ∧ h ≤ s.size then some (.string (s.extract l h)) else none) ∧
 (∀ d, aBound none d = some d) ∧ (∀ k i d, aBound (some (.int k i)) d = if 0 ≤ i then some i.toNat else none) ∧
 (∀ (P : Program) (A : AH) (s : Sl) (t : TypeId), aLen P A t s.v = if tKind P t = some .slice then some (.int .i64 s.len) else none) ∧
 (∀ nx A n sz z, makeK nx A n sz (some z) = if z.length = sz then some (.slice (some ⟨nx, 0, none⟩) n n, A.newAt nx (.cells (List.replicate n z).flatten sz)) else none) ∧
 (∀ b o n c, Value.slice (some ⟨b, o, none⟩) n c = (Sl.mk false b o n c).v) ∧ (Value.slice none 0 0 = Sl.nil.v) ∧
 (∀ (b o n : Nat), Addr.add ⟨b, o, none⟩ n = ⟨b, o + n, none⟩) ∧ (∀ a b : ByteArray, (a.toList == b.toList) = decide (a = b)) ∧ (∀ a b : ByteArray, decide (a.toList = b.toList) = decide (a = b)) :=
 ⟨fun _ _ _ _ _ => rfl, fun _ _ _ _ _ => rfl, fun _ _ _ _ _ _ => rfl, fun _ _ _ => rfl, fun _ => rfl, fun _ _ _ => rfl, fun _ _ _ => rfl, fun _ _ _ _ _ => rfl, aResVals_cell, fun _ _ _ _ _ => rfl, aCell_eq, aRow_eq, fun _ _ _ => rfl,
  fun _ _ _ _ => rfl, aOp_alloc, aOp_box, fun _ _ _ _ _ => rfl, fun _ _ => rfl, fun _ _ => rfl, rfl, fun _ _ => rfl, fun _ _ _ => rfl, fun _ _ => rfl, isBld_sl, fun _ _ => rfl, fun _ => rfl, fun _ => rfl, rfl, fun _ _ => rfl,
  fun _ _ _ => rfl, fun _ _ => rfl, fun _ _ => rfl, fun _ _ => rfl, fun _ => rfl, fun _ => rfl, fun _ _ => rfl, rfl, fun _ _ _ _ => rfl, aOp_build, fun _ _ _ _ => rfl, aOp_buildSlice, fun _ _ _ _ _ _ => rfl, fun _ _ => rfl, aFill_cons, fun _ _ _ _ _ _ => rfl, aOp_iface, fun _ _ _ _ => rfl, aOp_nil,
  fun _ _ => rfl, fun _ _ _ _ => rfl, aOp_field, fun _ _ _ _ _ => rfl, fun _ _ _ _ => rfl, fun _ _ _ _ => rfl, aSlice_s, fun _ _ _ => rfl, fun _ => rfl, fun _ _ _ => rfl, fun P A s t => Sl.v_len P A s t, fun _ _ _ _ _ => rfl,
  fun _ _ _ _ => rfl, rfl, fun _ _ _ => by simp [Addr.add], str_beq, str_dec⟩
theorem amL :
 (∀ b, acells (.bool b) = some [.bool b]) ∧ (∀ k n, acells (.int k n) = some [.int k n]) ∧ (∀ s, acells (.string s) = some [.string s]) ∧ (∀ p, acells (.pointer p) = some [.pointer p]) ∧ (∀ s : Sl, acells s.v = some [s.v]) ∧
 (∀ m, acells (.map m) = some [.map m]) ∧ (∀ f a b, acells (.func f a b) = some [.func f a b]) ∧ (acells .nilFunc = some [.nilFunc]) ∧ (acells .nilIface = some [.nilIface]) ∧ (∀ t v, acells (.iface t v) = some [.iface t v]) ∧
 (∀ cs, acells (.agg cs) = some cs.toList) ∧
 (∀ c o, setCells c o [] = c) ∧ (∀ c o v vs, setCells c o (v :: vs) = setCells (c.set o v) (o + 1) vs) ∧ (List.range 1 = [0]) ∧ (List.range 2 = [0, 1]) ∧ (List.range 3 = [0, 1, 2]) ∧ (List.range 0 = []) ∧
 (∀ a : List Value, (List.replicate 0 a).flatten = []) ∧ (∀ a : List Value, (List.replicate 1 a).flatten = a) ∧ (∀ a : List Value, (List.replicate 2 a).flatten = a ++ a) ∧ (∀ a : List Value, (List.replicate 3 a).flatten = a ++ (a ++ a)) :=
 ⟨fun _ => rfl, fun _ _ => rfl, fun _ => rfl, fun _ => rfl, fun _ => rfl, fun _ => rfl, fun _ _ _ => rfl, rfl, rfl, fun _ _ => rfl, fun _ => rfl, fun _ _ => rfl, fun _ _ _ _ => rfl, by decide, by decide, by decide, by decide, fun _ => rfl, fun a => by simp, fun a => by simp [List.replicate_succ], fun a => by simp [List.replicate_succ]⟩
def convI (A : AH) (n : Int) : Option Kind → Option Kind → Option (Value × AH)
 | some (.int _), some (.int k) => some (.int k (k.wrap n), A)
 | _, _ => none
def convB (A : AH) (s : Sl) (b : Bool) : Option Kind → Option Kind → Option (Value × AH)
 | some .slice, some .str => if b = true then (if s.nl = true ∨ s.len = 0 then some (.string .empty, A) else (rowK s.o s.len (A.get s.b)).bind fun cs => (strOf cs).map fun l => (.string ⟨l.toArray⟩, A)) else none
 | _, _ => none
def convT (nx : Nat) (A : AH) (s : ByteArray) (b : Bool) : Option Kind → Option Kind → Option (Value × AH)
 | some .str, some .str => some (.string s, A)
 | some .str, some .slice => if b = true then some (.slice (some ⟨nx, 0, none⟩) s.size BIG, A.newAt nx (.cells (bytesOf s) 1)) else none
 | _, _ => none
theorem aConvert_int (P : Program) (nx : Nat) (A : AH) (s d : TypeId) (k : IntKind) (n : Int) : aConvert P nx A s d (.int k n) = convI A n (tKind P s) (tKind P d) := by
 unfold aConvert convI
 cases tKind P s with
 | none => rfl
 | some a =>
   cases tKind P d with
   | none => cases a <;> rfl
   | some b => cases a <;> cases b <;> rfl
theorem aConvert_sl (P : Program) (nx : Nat) (A : AH) (s d : TypeId) (x : Sl) : aConvert P nx A s d x.v = convB A x (tBytes P s) (tKind P s) (tKind P d) := by
 unfold aConvert convB Sl.v
 cases tKind P s with
 | none => cases x.nl <;> rfl
 | some a =>
   cases tKind P d with
   | none => cases x.nl <;> cases a <;> rfl
   | some b =>
     cases a <;> cases b <;> cases hn : x.nl <;> simp [aRow_eq]
     by_cases h0 : x.len = 0
     ·simp [h0]
     ·simp only [h0, if_false]
      split
      ·cases rowK x.o x.len (A.get x.b) <;> simp
      ·rfl
theorem aConvert_str (P : Program) (nx : Nat) (A : AH) (s d : TypeId) (x : ByteArray) : aConvert P nx A s d (.string x) = convT nx A x (tBytes P d) (tKind P s) (tKind P d) := by
 unfold aConvert convT
 cases tKind P s with
 | none => rfl
 | some a =>
   cases tKind P d with
   | none => cases a <;> rfl
   | some b => cases a <;> cases b <;> rfl
theorem aBin_eqb (P : Program) (t : TypeId) (a b : Bool) : aBin P .eql t (.bool a) (.bool b) = if tKind P t = some .bool then some (.bool (a == b)) else none := by
 unfold aBin aEq
 cases tKind P t with
 | none => simp
 | some k => cases k <;> simp
theorem aBin_neb (P : Program) (t : TypeId) (a b : Bool) : aBin P .neq t (.bool a) (.bool b) = if tKind P t = some .bool then some (.bool (!(a == b))) else none := by
 unfold aBin aEq
 cases tKind P t with
 | none => simp
 | some k => cases k <;> simp
theorem amN (P : Program) :
 (∀ {a b : Nat} {x y : Option Value}, a < b → (if a < b then x else y) = x) ∧
 (∀ {a b : Nat} {x y : Option Value}, a ≤ b → (if a ≤ b then x else y) = x) ∧
 (∀ {a b : Nat} {x y : Option (Value × AH)}, a < b → (if a < b then x else y) = x) ∧
 (∀ {a b : Nat} {x y : Option (Value × AH)}, a ≤ b → (if a ≤ b then x else y) = x) ∧
 (∀ {a b : Nat} {x y : Option AH}, a < b → (if a < b then x else y) = x) ∧
 (∀ {a b : Nat} {x y : Option AH}, a ≤ b → (if a ≤ b then x else y) = x) ∧
 (∀ {a b : Nat} {x y : Option (List Value)}, a < b → (if a < b then x else y) = x) ∧
 (∀ {a b : Nat} {x y : Option (List Value)}, a ≤ b → (if a ≤ b then x else y) = x) ∧
 (∀ {a b : Int} {x y : Option Nat}, a ≤ b → (if a ≤ b then x else y) = x) ∧
 (∀ {a b c d : Nat} {x y : Option Value}, (a ≤ b ∧ c ≤ d) → (if a ≤ b ∧ c ≤ d then x else y) = x) ∧
 (∀ {a b c d : Nat} {x y : Option (Value × AH)}, (a ≤ b ∧ c ≤ d) → (if a ≤ b ∧ c ≤ d then x else y) = x) ∧
 (∀ t k a b, aBin P .rem t (.int k a) (.int k b) = if b = 0 then none else some (.int k (a.tmod b))) ∧ (∀ t k a b, aBin P .quo t (.int k a) (.int k b) = if b = 0 then none else some (.int k (k.wrap (a.tdiv b)))) ∧
 (∀ t k k' a b, aBin P .shl t (.int k a) (.int k' b) = if b < 0 then none else some (.int k (k.wrap (a * 2 ^ (min b.toNat k.bits))))) ∧ (∀ t k k' a b, aBin P .shr t (.int k a) (.int k' b) = if b < 0 then none else some (.int k (a.fdiv (2 ^ (min b.toNat k.bits))))) ∧
 (∀ t k a b, aBin P .and t (.int k a) (.int k b) = some (.int k (k.wrap (BitVec.ofInt k.bits a &&& BitVec.ofInt k.bits b).toNat))) ∧ (∀ t k a b, aBin P .or t (.int k a) (.int k b) = some (.int k (k.wrap (BitVec.ofInt k.bits a ||| BitVec.ofInt k.bits b).toNat))) ∧
 (∀ t k a b, aBin P .xor t (.int k a) (.int k b) = some (.int k (k.wrap (BitVec.ofInt k.bits a ^^^ BitVec.ofInt k.bits b).toNat))) ∧
 (∀ a b : Int, 0 ≤ a → a.tmod b = a % b) ∧ (∀ a b : Int, 0 ≤ a → a.tdiv b = a / b) ∧
 (∀ nx A s d k n, aConvert P nx A s d (.int k n) = convI A n (tKind P s) (tKind P d)) ∧ (∀ (A : AH) n q k, convI A n (some (.int q)) (some (.int k)) = some (.int k (k.wrap n), A)) ∧
 (∀ nx A s d (x : Sl), aConvert P nx A s d x.v = convB A x (tBytes P s) (tKind P s) (tKind P d)) ∧
 (∀ A (x : Sl) b, convB A x b (some .slice) (some .str) = if b = true then (if x.nl = true ∨ x.len = 0 then some (.string .empty, A) else (rowK x.o x.len (A.get x.b)).bind fun cs => (strOf cs).map fun l => (.string ⟨l.toArray⟩, A)) else none) ∧
 (∀ nx A s d (x : ByteArray), aConvert P nx A s d (.string x) = convT nx A x (tBytes P d) (tKind P s) (tKind P d)) ∧ (∀ nx A (x : ByteArray) b, convT nx A x b (some .str) (some .str) = some (.string x, A)) ∧
 (∀ nx A (x : ByteArray) b, convT nx A x b (some .str) (some .slice) = if b = true then some (.slice (some ⟨nx, 0, none⟩) x.size BIG, A.newAt nx (.cells (bytesOf x) 1)) else none) ∧
 (strOf [] = some []) ∧ (∀ n r, strOf (.int .u8 n :: r) = (strOf r).map (UInt8.ofNat n.toNat :: ·)) ∧ (∀ (a : UInt8) (l : List UInt8), (ByteArray.mk (a :: l).toArray).size = l.length + 1) ∧ ((ByteArray.mk #[]).size = 0) ∧ (ByteArray.empty.size = 0) ∧
 (∀ t a b, aBin P .eql t (.bool a) (.bool b) = if tKind P t = some .bool then some (.bool (a == b)) else none) ∧ (∀ t a b, aBin P .neq t (.bool a) (.bool b) = if tKind P t = some .bool then some (.bool (!(a == b))) else none) ∧
 (∀ t a b, aBin P .lss t (.string a) (.string b) = some (.bool (Op.bytesLess a.toList b.toList))) ∧ (∀ t a b, aBin P .leq t (.string a) (.string b) = some (.bool (Op.bytesLess a.toList b.toList || a.toList == b.toList))) ∧
 (∀ t a b, aBin P .gtr t (.string a) (.string b) = some (.bool (!(Op.bytesLess a.toList b.toList || a.toList == b.toList)))) ∧ (∀ t a b, aBin P .geq t (.string a) (.string b) = some (.bool (!(Op.bytesLess a.toList b.toList)))) :=
 ⟨fun h => if_pos h, fun h => if_pos h, fun h => if_pos h, fun h => if_pos h, fun h => if_pos h, fun h => if_pos h, fun h => if_pos h, fun h => if_pos h, fun h => if_pos h, fun h => if_pos h, fun h => if_pos h, fun _ k a b => by simp [aBin, aInt], fun _ k a b => by simp [aBin, aInt], fun _ _ _ _ _ => rfl, fun _ _ _ _ _ => rfl, fun _ k a b => by simp [aBin, aInt], fun _ k a b => by simp [aBin, aInt],
  fun _ k a b => by simp [aBin, aInt], fun _ _ h => Int.tmod_eq_emod_of_nonneg h, fun _ _ h => Int.tdiv_eq_ediv_of_nonneg h, fun nx A s d k n => aConvert_int P nx A s d k n, fun _ _ _ _ => rfl, fun nx A s d x => aConvert_sl P nx A s d x, fun _ _ _ => rfl,
  fun nx A s d x => aConvert_str P nx A s d x, fun _ _ _ _ => rfl, fun _ _ _ _ => rfl, rfl, fun _ _ => rfl, fun _ _ => rfl, rfl, rfl, aBin_eqb P, aBin_neb P, fun _ _ _ => rfl, fun _ _ _ => rfl, fun _ _ _ => rfl, fun _ _ _ => rfl⟩
end Go.AM
