/- The abstract machine in use: more equations for reckoning, with conditions that plain arithmetic shows. -/
import Derived.Test.YtmelgjblkmbhjaaGreatDoorAmF
import Derived.IntWalk
import Derived.Laws.Strings
namespace Go.AM
open Go
/-! ### The end of a function -/
def endV (R : ARes → AH → Prop) (A : AH) : Option (List Value) → Prop
  | some vs => R (.ret (aTup vs)) A
  | none => False
def endQ (P : Program) (rs : List ResultVar) (R : ARes → AH → Prop) : Post
  | .normal, e, A => endV R A (aResVals P A e rs)
  | .ret, e, A => endV R A (aResVals P A e rs)
  | .pan v, _, A => R (.pan v) A
  | .exit _, _, _ => False
theorem ACalls.enterQ {P : Program} {ro : Nat} {X : FuncId → List Value → AH → ARes → AH → Prop} {f : FuncId} {args : List Value} {fn : Func} {c : Code} {A : AH} {R : ARes → AH → Prop} {rs : List ResultVar}
    (hf : P.funcs[f]? = some fn) (hb : fn.body = some c) (hd : (dstsOk fn.ntmps P.globals.size c && decide (args.length ≤ fn.ntmps) && !(fn.name == "runtime.NumGoroutine")) = true) (hr : fn.results.toList = rs)
    (h : RunC P ro X c (endQ P rs R) (Env.enter args) A) : ACalls P ro X f args A R := by
  simp only [Bool.and_eq_true, decide_eq_true_eq, Bool.not_eq_true'] at hd
  refine ACalls.func hf hb hd.2 hd.1.1 hd.1.2 ((RunC.sound _ _ _ _ h).mono fun x e' A' hq => ?_)
  subst hr
  have key : endV R A' (aResVals P A' e' fn.results.toList) → ∃ v, aResults P A' e' fn = some v ∧ R (.ret v) A' := by
    intro hq
    unfold aResults
    cases hv : aResVals P A' e' fn.results.toList with
    | none => rw [hv] at hq; exact hq.elim
    | some vs => rw [hv] at hq; exact ⟨_, rfl, hq⟩
  cases x with
  | normal => exact key hq
  | ret => exact key hq
  | exit id => exact hq
  | pan v => exact hq
def resCell (P : Program) (A : AH) (t : TypeId) (r : Option (List Value)) : Value → Option (List Value)
  | .pointer (some p) => (aLoadK A p (tAgg P t) (tSize P t)).bind fun v => r.map (v :: ·)
  | _ => none
theorem aResVals_cell (P : Program) (A : AH) (e : Env) (a : Tmp) (t : TypeId) (r : List ResultVar) : aResVals P A e (.cell a t :: r) = resCell P A t (aResVals P A e r) (e a) := by
  simp only [aResVals]
  cases e a <;> try rfl
  rename_i p
  cases p with
  | none => rfl
  | some p =>
    simp only [resCell, ← aLoad_eq]
    cases aLoad P A t p <;> rfl
/-! ### Cells -/
def cellK (o : Nat) : AObj → Option Value
  | .cells c _ => c[o]?
  | _ => none
def rowK (o n : Nat) : AObj → Option (List Value)
  | .cells c _ => if o + n ≤ c.length then some ((c.drop o).take n) else none
  | _ => none
theorem aCell_eq (A : AH) (b o : Nat) : aCell A ⟨b, o, none⟩ = cellK o (A.get b) := by
  unfold aCell cellK
  cases A.get b <;> rfl
theorem aRow_eq (A : AH) (b o n : Nat) : aRow A ⟨b, o, none⟩ n = rowK o n (A.get b) := by
  unfold aRow rowK
  cases A.get b <;> rfl
def allocK (nx : Nat) (A : AH) : Option (List Value) → Option Nat → Option (Value × AH)
  | some z, some n => some (.pointer (some ⟨nx, 0, none⟩), A.newAt nx (.cells z n))
  | _, _ => none
theorem aOp_alloc (P : Program) (ro nx : Nat) (t : TypeId) (e : Env) (A : AH) : aOp P ro nx (.alloc t) e A = allocK nx A ((tZero P t).bind acells) (tSize P t) := by
  simp only [aOp]
  cases (tZero P t).bind acells <;> cases tSize P t <;> rfl
theorem aOp_box (P : Program) (ro nx : Nat) (t : TypeId) (x : Operand) (e : Env) (A : AH) : aOp P ro nx (.box t x) e A = allocK nx A (acells (e.eval x)) (tSize P t) := by
  simp only [aOp]
  cases acells (e.eval x) <;> cases tSize P t <;> rfl
def buildK (A : AH) (ps : List (Nat × Value)) : Option (List (Nat × Nat)) → Option (List Value) → Option (Value × AH)
  | some q, some z => (aFill q z ps).map fun cs => (.agg cs.toArray, A)
  | _, _ => none
theorem aOp_build (P : Program) (ro nx : Nat) (t : TypeId) (ps : Array (Nat × Operand)) (e : Env) (A : AH) :
    aOp P ro nx (.build t ps) e A = buildK A (ps.toList.map fun x => (x.1, e.eval x.2)) (tPlaces P t) ((tZero P t).bind acells) := by
  simp only [aOp]
  cases tPlaces P t <;> cases (tZero P t).bind acells <;> rfl
def buildSliceK (nx : Nat) (A : AH) (len : Nat) (ps : List (Nat × Value)) (sz : Nat) : Option (List Value) → Option (Value × AH)
  | some z => if len * sz ≤ 16777216 ∧ z.length = sz ∧ len ≤ 16777216 then
      (aFill ((List.range len).map fun i => (i * sz, sz)) (List.replicate len z).flatten ps).map fun cs => (.slice (some ⟨nx, 0, none⟩) len len, A.newAt nx (.cells cs sz))
    else none
  | none => none
theorem aOp_buildSlice (P : Program) (ro nx : Nat) (t : TypeId) (len : Nat) (ps : Array (Nat × Operand)) (e : Env) (A : AH) : aOp P ro nx (.buildSlice t len ps) e A =
    (tElem P t).bind fun el => (tElemSize P t).bind fun sz => buildSliceK nx A len (ps.toList.map fun x => (x.1, e.eval x.2)) sz ((tZero P el).bind acells) := by
  simp only [aOp]
  cases tElem P t <;> cases tElemSize P t <;> rfl
def fillK (places : List (Nat × Nat)) (cells : List Value) (rest : List (Nat × Value)) : Option (Nat × Nat) → Option (List Value) → Option (List Value)
  | some (off, size), some vs => if vs.length = size ∧ off + size ≤ cells.length then aFill places (setCells cells off vs) rest else none
  | _, _ => none
theorem aFill_cons (places : List (Nat × Nat)) (cells : List Value) (i : Nat) (v : Value) (rest : List (Nat × Value)) :
    aFill places cells ((i, v) :: rest) = fillK places cells rest places[i]? (acells v) := by
  simp only [aFill]
  cases places[i]? <;> cases acells v <;> rfl
def ifaceK (A : AH) (t : TypeId) (v : Value) (r : Option (List Value)) : Option Kind → Option (Value × AH)
  | some .iface => none
  | some _ => r.map fun _ => (.iface t v, A)
  | none => none
theorem aOp_iface (P : Program) (ro nx : Nat) (t : TypeId) (x : Operand) (e : Env) (A : AH) : aOp P ro nx (.makeInterface t x) e A = ifaceK A t (e.eval x) (acells (e.eval x)) (tKind P t) := by
  simp only [aOp, plain]
  cases tKind P t with
  | none => rfl
  | some k => rcases Option.eq_none_or_eq_some (acells (e.eval x)) with hr | ⟨l, hr⟩ <;> cases k <;> simp [ifaceK, hr]
def nilK (A : AH) : Value → Option (Value × AH)
  | .pointer (some a) => some (.pointer (some a), A)
  | .func (.func f) x y => some (.func (.func f) x y, A)
  | _ => none
theorem aOp_nil (P : Program) (ro nx : Nat) (x : Operand) (e : Env) (A : AH) : aOp P ro nx (.nilCheck x) e A = nilK A (e.eval x) := by
  simp only [aOp]
  rfl
def fieldRow (A : AH) (cs : List Value) (off : Nat) : Option Bool → Option Nat → Option (Value × AH)
  | some true, some n => if off + n ≤ cs.length then some (.agg ((cs.drop off).take n).toArray, A) else none
  | some false, _ => (cs[off]?).map fun v => (v, A)
  | _, _ => none
def fieldK (P : Program) (A : AH) : Option (Nat × TypeId) → Value → Option (Value × AH)
  | some (off, ft), .agg cs => fieldRow A cs.toList off (tAgg P ft) (tSize P ft)
  | _, _ => none
theorem aOp_field (P : Program) (ro nx : Nat) (t : TypeId) (x : Operand) (f : Nat) (e : Env) (A : AH) : aOp P ro nx (.field t x f) e A = fieldK P A (tField P t f) (e.eval x) := by
  simp only [aOp]
  cases tField P t f with
  | none => cases e.eval x <;> rfl
  | some q =>
    obtain ⟨off, ft⟩ := q
    cases e.eval x <;> rfl
/-- A byte of a text. -/
def bget (s : ByteArray) (i : Nat) : UInt8 := s.data.getD i 0
theorem aIndex_str (P : Program) (t : TypeId) (s : ByteArray) (k : IntKind) (i : Int) (h0 : 0 ≤ i) (h1 : i < s.size) :
    aIndex P t (.string s) (.int k i) = if tKind P t = some .str then some (.int .u8 (bget s i.toNat).toNat) else none := by
  unfold aIndex
  have hlt : i.toNat < s.data.size := by have : s.size = s.data.size := rfl; omega
  cases tKind P t with
  | none => simp
  | some q => cases q <;> simp [h0, bget, Array.getD_eq_getD_getElem?, Array.getElem?_eq_getElem hlt]
theorem aSlice_str (P : Program) (A : AH) (t : TypeId) (s : ByteArray) (l h : Nat) (h1 : l ≤ h ∧ h ≤ s.size) (lo hi : Option Value) (hl : aBound lo 0 = some l) (hh : aBound hi s.size = some h) :
    aSlice P A t (.string s) lo hi none = if tKind P t = some .str then some (.string (s.extract l h)) else none := by
  unfold aSlice
  cases tKind P t with
  | none => simp
  | some q => cases q <;> simp [hl, hh, h1]
def strSl (s : ByteArray) : Option Nat → Option Nat → Option Value
  | some l, some h => if l ≤ h ∧ h ≤ s.size then some (.string (s.extract l h)) else none
  | _, _ => none
theorem aSlice_s (P : Program) (A : AH) (t : TypeId) (s : ByteArray) (lo hi : Option Value) :
    aSlice P A t (.string s) lo hi none = if tKind P t = some .str then strSl s (aBound lo 0) (aBound hi s.size) else none := by
  unfold aSlice
  cases tKind P t with
  | none => simp
  | some q => cases q <;> simp [strSl] <;> cases aBound lo 0 <;> cases aBound hi s.size <;> rfl
theorem Sl.v_addrI (P : Program) (t : TypeId) (s : Sl) (k : IntKind) (i : Int) (h : 0 ≤ i ∧ i < s.len) :
    aIndexAddr P t s.v (.int k i) = if s.nl = false then (tElemSize P t).bind fun w => some (.pointer (some ⟨s.b, s.o + i.toNat * w, none⟩)) else none := by
  unfold Sl.v aIndexAddr
  cases hn : s.nl with
  | true => simp
  | false => cases tElemSize P t <;> simp [h.1, h.2, Addr.add]
def makeK (nx : Nat) (A : AH) (n : Nat) (sz : Nat) : Option (List Value) → Option (Value × AH)
  | some z => if z.length = sz then some (.slice (some ⟨nx, 0, none⟩) n n, A.newAt nx (.cells (List.replicate n z).flatten sz)) else none
  | none => none
theorem aMakeSlice_eq (P : Program) (nx : Nat) (A : AH) (t : TypeId) (k k' : IntKind) (l : Int) (h : 0 ≤ l ∧ l < 4294967296) :
    aMakeSlice P nx A t (.int k l) (.int k' l) = (tElem P t).bind fun e => (tElemSize P t).bind fun sz => makeK nx A l.toNat sz ((tZero P e).bind acells) := by
  unfold aMakeSlice
  cases tElem P t <;> cases tElemSize P t <;> try rfl
  simp only [Option.bind_some]
  rename_i e sz
  cases (tZero P e).bind acells <;> simp [makeK, LIM, h.1, h.2]
theorem str_inj {a b : ByteArray} (h : a.toList = b.toList) : a = b := by
  rw [ByteArray.toList_eq, ByteArray.toList_eq] at h
  cases a; cases b
  congr 1
  exact Array.toList_inj.1 h
theorem str_beq (a b : ByteArray) : (a.toList == b.toList) = decide (a = b) := by
  by_cases h : a = b
  · subst h; simp
  · have : ¬ a.toList = b.toList := fun e => h (str_inj e)
    rw [decide_eq_false h]
    exact beq_false_of_ne this
theorem str_dec (a b : ByteArray) : decide (a.toList = b.toList) = decide (a = b) := by
  by_cases h : a = b
  · subst h; simp
  · have : ¬ a.toList = b.toList := fun e => h (str_inj e)
    simp [h, this]
/-! ### The equations, gathered -/
/-- Blocks, numbers: with conditions. -/
theorem amH :
    (∀ (A : AH) (o : AObj), (A.new o).size = A.size + 1) ∧ (∀ (A : AH) (b : Nat) (o : AObj), (A.put b o).size = A.size) ∧ (∀ (A : AH) (o : AObj), (A.new o).get A.size = o) ∧ (∀ {A : AH} {n : Nat} (o : AObj), (n ≤ A.size ∧ A.size ≤ n) → (A.new o).get n = o) ∧ (∀ (A : AH) (b : Nat) (o : AObj), (A.put b o).get b = o) ∧
    (∀ {A : AH} {n : Nat} (o : AObj), (n ≤ A.size ∧ A.size ≤ n) → A.newAt n o = A.new o) ∧
    (∀ {A : AH} {o : AObj} {b : Nat}, b ≠ A.size → (A.new o).get b = A.get b) ∧ (∀ {A : AH} {o : AObj} {b b' : Nat}, b' ≠ b → (A.put b o).get b' = A.get b') ∧
    (∀ n : Int, (-9223372036854775808 ≤ n ∧ n ≤ 9223372036854775807) → IntKind.i64.wrap n = n) ∧ (∀ n : Int, (0 ≤ n ∧ n ≤ 255) → IntKind.u8.wrap n = n) ∧ (∀ n : Int, (0 ≤ n ∧ n ≤ 18446744073709551615) → IntKind.u64.wrap n = n) ∧
    (∀ (P : Program) (t : TypeId) (s : Sl) (k : IntKind) (i : Int), (0 ≤ i ∧ i < s.len) →
      aIndexAddr P t s.v (.int k i) = if s.nl = false then (tElemSize P t).bind fun w => some (.pointer (some ⟨s.b, s.o + i.toNat * w, none⟩)) else none) ∧
    (∀ (P : Program) (t : TypeId) (b o n c : Nat) (k : IntKind) (i : Int), (0 ≤ i ∧ i < n) →
      aIndexAddr P t (Sl.mk false b o n c).v (.int k i) = (tElemSize P t).bind fun w => some (.pointer (some ⟨b, o + i.toNat * w, none⟩))) ∧
    (∀ (P : Program) (t : TypeId) (s : ByteArray) (k : IntKind) (i : Int), 0 ≤ i → i < s.size → aIndex P t (.string s) (.int k i) = if tKind P t = some .str then some (.int .u8 (bget s i.toNat).toNat) else none) ∧
    (∀ (P : Program) (nx : Nat) (A : AH) (t : TypeId) (k k' : IntKind) (l : Int), (0 ≤ l ∧ l < 4294967296) →
      aMakeSlice P nx A t (.int k l) (.int k' l) = (tElem P t).bind fun e => (tElemSize P t).bind fun sz => makeK nx A l.toNat sz ((tZero P e).bind acells)) ∧
    (∀ (ro : Nat) (A : AH) (b off e : Nat) (c vs : List Value) (n : Nat), ro ≤ b → aStoreK ro A ⟨b, off, none⟩ (.cells c e) (some vs) (some n) = if vs.length = n ∧ off + n ≤ c.length then some (A.put b (.cells (setCells c off vs) e)) else none) :=
  ⟨fun _ _ => rfl, fun _ _ _ => rfl, AH.get_new_self, fun {A n} o h => (by obtain rfl : n = A.size := Nat.le_antisymm h.1 h.2; exact AH.get_new_self _ o), AH.get_put_self, fun {A n} o h => (by obtain rfl : n = A.size := Nat.le_antisymm h.1 h.2; exact AH.newAt_self _ o), fun h => AH.get_new_other h, fun h => AH.get_put_other h, IntWalk.i64_in, IntWalk.u8_in, IntWalk.u64_in, fun P t s k i h => Sl.v_addrI P t s k i h,
    fun P t b o n c k i h => by rw [Sl.v_addrI P t _ k i h, if_pos rfl], fun P t s k i h0 h1 => aIndex_str P t s k i h0 h1, fun P nx A t k k' l h => aMakeSlice_eq P nx A t k k' l h, fun ro A b off e c vs n h => by simp [aStoreK, h]⟩
/-- Without conditions. -/
theorem amQ :
    (∀ P rs R e A, endQ P rs R .ret e A = endV R A (aResVals P A e rs)) ∧ (∀ P rs R e A, endQ P rs R .normal e A = endV R A (aResVals P A e rs)) ∧ (∀ P rs (R : ARes → AH → Prop) v e A, endQ P rs R (.pan v) e A = R (.pan v) A) ∧
    (∀ (R : ARes → AH → Prop) A vs, endV R A (some vs) = R (.ret (aTup vs)) A) ∧ (∀ v, aTup [v] = v) ∧ (∀ v u l, aTup (v :: u :: l) = .tuple (v :: u :: l).toArray) ∧
    (∀ P A e, aResVals P A e [] = some []) ∧ (∀ P A e t r, aResVals P A e (.tmp t :: r) = (aResVals P A e r).map (e t :: ·)) ∧ (∀ P A e a t r, aResVals P A e (.cell a t :: r) = resCell P A t (aResVals P A e r) (e a)) ∧
    (∀ P A t r p, resCell P A t r (.pointer (some p)) = (aLoadK A p (tAgg P t) (tSize P t)).bind fun v => r.map (v :: ·)) ∧
    (∀ (A : AH) (b o : Nat), aCell A ⟨b, o, none⟩ = cellK o (A.get b)) ∧ (∀ (A : AH) (b o n : Nat), aRow A ⟨b, o, none⟩ n = rowK o n (A.get b)) ∧ (∀ o c e, cellK o (.cells c e) = c[o]?) ∧
    (∀ o n c e, rowK o n (.cells c e) = if o + n ≤ c.length then some ((c.drop o).take n) else none) ∧
    (∀ P ro nx t e A, aOp P ro nx (.alloc t) e A = allocK nx A ((tZero P t).bind acells) (tSize P t)) ∧ (∀ P ro nx t x e A, aOp P ro nx (.box t x) e A = allocK nx A (acells (e.eval x)) (tSize P t)) ∧
    (∀ nx A z n, allocK nx A (some z) (some n) = some (.pointer (some ⟨nx, 0, none⟩), A.newAt nx (.cells z n))) ∧
    (∀ P ro nx t ps e A, aOp P ro nx (.build t ps) e A = buildK A (ps.toList.map fun x => (x.1, e.eval x.2)) (tPlaces P t) ((tZero P t).bind acells)) ∧
    (∀ A ps q z, buildK A ps (some q) (some z) = (aFill q z ps).map fun cs => (.agg cs.toArray, A)) ∧
    (∀ P ro nx t len ps e A, aOp P ro nx (.buildSlice t len ps) e A = (tElem P t).bind fun el => (tElemSize P t).bind fun sz => buildSliceK nx A len (ps.toList.map fun x => (x.1, e.eval x.2)) sz ((tZero P el).bind acells)) ∧
    (∀ nx A len ps sz z, buildSliceK nx A len ps sz (some z) = if len * sz ≤ 16777216 ∧ z.length = sz ∧ len ≤ 16777216 then
      (aFill ((List.range len).map fun i => (i * sz, sz)) (List.replicate len z).flatten ps).map fun cs => (.slice (some ⟨nx, 0, none⟩) len len, A.newAt nx (.cells cs sz)) else none) ∧
    (∀ q z, aFill q z [] = some z) ∧ (∀ q z i v r, aFill q z ((i, v) :: r) = fillK q z r q[i]? (acells v)) ∧
    (∀ q z r off size vs, fillK q z r (some (off, size)) (some vs) = if vs.length = size ∧ off + size ≤ z.length then aFill q (setCells z off vs) r else none) ∧
    (∀ P ro nx t x e A, aOp P ro nx (.makeInterface t x) e A = ifaceK A t (e.eval x) (acells (e.eval x)) (tKind P t)) ∧ (∀ A t v r, ifaceK A t v (some r) (some .struct) = some (.iface t v, A)) ∧
    (∀ P ro nx x e A, aOp P ro nx (.nilCheck x) e A = nilK A (e.eval x)) ∧ (∀ A a, nilK A (.pointer (some a)) = some (.pointer (some a), A)) ∧ (∀ A f x y, nilK A (.func (.func f) x y) = some (.func (.func f) x y, A)) ∧
    (∀ P ro nx t x f e A, aOp P ro nx (.field t x f) e A = fieldK P A (tField P t f) (e.eval x)) ∧ (∀ P A off ft cs, fieldK P A (some (off, ft)) (.agg cs) = fieldRow A cs.toList off (tAgg P ft) (tSize P ft)) ∧
    (∀ A cs off n, fieldRow A cs off (some true) (some n) = if off + n ≤ cs.length then some (.agg ((cs.drop off).take n).toArray, A) else none) ∧ (∀ A cs off n, fieldRow A cs off (some false) n = (cs[off]?).map fun v => (v, A)) ∧
    (∀ P A t s lo hi, aSlice P A t (.string s) lo hi none = if tKind P t = some .str then strSl s (aBound lo 0) (aBound hi s.size) else none) ∧ (∀ s l h, strSl s (some l) (some h) = if l ≤ h ∧ h ≤ s.size then some (.string (s.extract l h)) else none) ∧
    (∀ d, aBound none d = some d) ∧ (∀ k i d, aBound (some (.int k i)) d = if 0 ≤ i then some i.toNat else none) ∧
    (∀ (P : Program) (A : AH) (s : Sl) (t : TypeId), aLen P A t s.v = if tKind P t = some .slice then some (.int .i64 s.len) else none) ∧
    (∀ nx A n sz z, makeK nx A n sz (some z) = if z.length = sz then some (.slice (some ⟨nx, 0, none⟩) n n, A.newAt nx (.cells (List.replicate n z).flatten sz)) else none) ∧
    (∀ b o n c, Value.slice (some ⟨b, o, none⟩) n c = (Sl.mk false b o n c).v) ∧ (Value.slice none 0 0 = Sl.nil.v) ∧
    (∀ (b o n : Nat), Addr.add ⟨b, o, none⟩ n = ⟨b, o + n, none⟩) ∧ (∀ a b : ByteArray, (a.toList == b.toList) = decide (a = b)) ∧ (∀ a b : ByteArray, decide (a.toList = b.toList) = decide (a = b)) :=
  ⟨fun _ _ _ _ _ => rfl, fun _ _ _ _ _ => rfl, fun _ _ _ _ _ _ => rfl, fun _ _ _ => rfl, fun _ => rfl, fun _ _ _ => rfl, fun _ _ _ => rfl, fun _ _ _ _ _ => rfl, aResVals_cell, fun _ _ _ _ _ => rfl, aCell_eq, aRow_eq, fun _ _ _ => rfl,
    fun _ _ _ _ => rfl, aOp_alloc, aOp_box, fun _ _ _ _ => rfl, aOp_build, fun _ _ _ _ => rfl, aOp_buildSlice, fun _ _ _ _ _ _ => rfl, fun _ _ => rfl, aFill_cons, fun _ _ _ _ _ _ => rfl, aOp_iface, fun _ _ _ _ => rfl, aOp_nil,
    fun _ _ => rfl, fun _ _ _ _ => rfl, aOp_field, fun _ _ _ _ _ => rfl, fun _ _ _ _ => rfl, fun _ _ _ _ => rfl, aSlice_s, fun _ _ _ => rfl, fun _ => rfl, fun _ _ _ => rfl, fun P A s t => Sl.v_len P A s t, fun _ _ _ _ _ => rfl,
    fun _ _ _ _ => rfl, rfl, fun _ _ _ => by simp [Addr.add], str_beq, str_dec⟩
theorem amL :
    (∀ b, acells (.bool b) = some [.bool b]) ∧ (∀ k n, acells (.int k n) = some [.int k n]) ∧ (∀ s, acells (.string s) = some [.string s]) ∧ (∀ p, acells (.pointer p) = some [.pointer p]) ∧ (∀ s : Sl, acells s.v = some [s.v]) ∧
    (∀ m, acells (.map m) = some [.map m]) ∧ (∀ f a b, acells (.func f a b) = some [.func f a b]) ∧ (acells .nilFunc = some [.nilFunc]) ∧ (acells .nilIface = some [.nilIface]) ∧ (∀ t v, acells (.iface t v) = some [.iface t v]) ∧
    (∀ cs, acells (.agg cs) = some cs.toList) ∧
    (∀ c o, setCells c o [] = c) ∧ (∀ c o v vs, setCells c o (v :: vs) = setCells (c.set o v) (o + 1) vs) ∧ (List.range 1 = [0]) ∧ (List.range 2 = [0, 1]) ∧ (List.range 3 = [0, 1, 2]) ∧ (List.range 0 = []) ∧
    (∀ a : List Value, (List.replicate 0 a).flatten = []) ∧ (∀ a : List Value, (List.replicate 1 a).flatten = a) ∧ (∀ a : List Value, (List.replicate 2 a).flatten = a ++ a) ∧ (∀ a : List Value, (List.replicate 3 a).flatten = a ++ (a ++ a)) :=
  ⟨fun _ => rfl, fun _ _ => rfl, fun _ => rfl, fun _ => rfl, fun _ => rfl, fun _ => rfl, fun _ _ _ => rfl, rfl, rfl, fun _ _ => rfl, fun _ => rfl, fun _ _ => rfl, fun _ _ _ _ => rfl, by decide, by decide, by decide, by decide, fun _ => rfl, fun a => by simp, fun a => by simp [List.replicate_succ], fun a => by simp [List.replicate_succ]⟩
def convI (A : AH) (n : Int) : Option Kind → Option Kind → Option (Value × AH)
  | some (.int _), some (.int k) => some (.int k (k.wrap n), A)
  | _, _ => none
def convB (A : AH) (s : Sl) (b : Bool) : Option Kind → Option Kind → Option (Value × AH)
  | some .slice, some .str => if b = true then (if s.nl = true ∨ s.len = 0 then some (.string .empty, A) else (rowK s.o s.len (A.get s.b)).bind fun cs => (strOf cs).map fun l => (.string ⟨l.toArray⟩, A)) else none
  | _, _ => none
def convT (nx : Nat) (A : AH) (s : ByteArray) (b : Bool) : Option Kind → Option Kind → Option (Value × AH)
  | some .str, some .str => some (.string s, A)
  | some .str, some .slice => if b = true then some (.slice (some ⟨nx, 0, none⟩) s.size BIG, A.newAt nx (.cells (bytesOf s) 1)) else none
  | _, _ => none
theorem aConvert_int (P : Program) (nx : Nat) (A : AH) (s d : TypeId) (k : IntKind) (n : Int) : aConvert P nx A s d (.int k n) = convI A n (tKind P s) (tKind P d) := by
  unfold aConvert convI
  cases tKind P s with
  | none => rfl
  | some a =>
    cases tKind P d with
    | none => cases a <;> rfl
    | some b => cases a <;> cases b <;> rfl
theorem aConvert_sl (P : Program) (nx : Nat) (A : AH) (s d : TypeId) (x : Sl) : aConvert P nx A s d x.v = convB A x (tBytes P s) (tKind P s) (tKind P d) := by
  unfold aConvert convB Sl.v
  cases tKind P s with
  | none => cases x.nl <;> rfl
  | some a =>
    cases tKind P d with
    | none => cases x.nl <;> cases a <;> rfl
    | some b =>
      cases a <;> cases b <;> cases hn : x.nl <;> simp [aRow_eq]
      by_cases h0 : x.len = 0
      · simp [h0]
      · simp only [h0, if_false]
        split
        · cases rowK x.o x.len (A.get x.b) <;> simp
        · rfl
theorem aConvert_str (P : Program) (nx : Nat) (A : AH) (s d : TypeId) (x : ByteArray) : aConvert P nx A s d (.string x) = convT nx A x (tBytes P d) (tKind P s) (tKind P d) := by
  unfold aConvert convT
  cases tKind P s with
  | none => rfl
  | some a =>
    cases tKind P d with
    | none => cases a <;> rfl
    | some b => cases a <;> cases b <;> rfl
theorem aBin_eqb (P : Program) (t : TypeId) (a b : Bool) : aBin P .eql t (.bool a) (.bool b) = if tKind P t = some .bool then some (.bool (a == b)) else none := by
  unfold aBin aEq
  cases tKind P t with
  | none => simp
  | some k => cases k <;> simp
theorem aBin_neb (P : Program) (t : TypeId) (a b : Bool) : aBin P .neq t (.bool a) (.bool b) = if tKind P t = some .bool then some (.bool (!(a == b))) else none := by
  unfold aBin aEq
  cases tKind P t with
  | none => simp
  | some k => cases k <;> simp
/-- Numbers, conversions. -/
theorem amN (P : Program) :
    (∀ {a b : Nat} {x y : Option Value}, a < b → (if a < b then x else y) = x) ∧
    (∀ {a b : Nat} {x y : Option Value}, a ≤ b → (if a ≤ b then x else y) = x) ∧
    (∀ {a b : Nat} {x y : Option (Value × AH)}, a < b → (if a < b then x else y) = x) ∧
    (∀ {a b : Nat} {x y : Option (Value × AH)}, a ≤ b → (if a ≤ b then x else y) = x) ∧
    (∀ {a b : Nat} {x y : Option AH}, a < b → (if a < b then x else y) = x) ∧
    (∀ {a b : Nat} {x y : Option AH}, a ≤ b → (if a ≤ b then x else y) = x) ∧
    (∀ {a b : Nat} {x y : Option (List Value)}, a < b → (if a < b then x else y) = x) ∧
    (∀ {a b : Nat} {x y : Option (List Value)}, a ≤ b → (if a ≤ b then x else y) = x) ∧
    (∀ {a b : Int} {x y : Option Nat}, a ≤ b → (if a ≤ b then x else y) = x) ∧
    (∀ {a b c d : Nat} {x y : Option Value}, (a ≤ b ∧ c ≤ d) → (if a ≤ b ∧ c ≤ d then x else y) = x) ∧
    (∀ {a b c d : Nat} {x y : Option (Value × AH)}, (a ≤ b ∧ c ≤ d) → (if a ≤ b ∧ c ≤ d then x else y) = x) ∧
    (∀ t k a b, aBin P .rem t (.int k a) (.int k b) = if b = 0 then none else some (.int k (a.tmod b))) ∧ (∀ t k a b, aBin P .quo t (.int k a) (.int k b) = if b = 0 then none else some (.int k (k.wrap (a.tdiv b)))) ∧
    (∀ t k k' a b, aBin P .shl t (.int k a) (.int k' b) = if b < 0 then none else some (.int k (k.wrap (a * 2 ^ (min b.toNat k.bits))))) ∧ (∀ t k k' a b, aBin P .shr t (.int k a) (.int k' b) = if b < 0 then none else some (.int k (a.fdiv (2 ^ (min b.toNat k.bits))))) ∧
    (∀ t k a b, aBin P .and t (.int k a) (.int k b) = some (.int k (k.wrap (BitVec.ofInt k.bits a &&& BitVec.ofInt k.bits b).toNat))) ∧ (∀ t k a b, aBin P .or t (.int k a) (.int k b) = some (.int k (k.wrap (BitVec.ofInt k.bits a ||| BitVec.ofInt k.bits b).toNat))) ∧
    (∀ t k a b, aBin P .xor t (.int k a) (.int k b) = some (.int k (k.wrap (BitVec.ofInt k.bits a ^^^ BitVec.ofInt k.bits b).toNat))) ∧
    (∀ a b : Int, 0 ≤ a → a.tmod b = a % b) ∧ (∀ a b : Int, 0 ≤ a → a.tdiv b = a / b) ∧
    (∀ nx A s d k n, aConvert P nx A s d (.int k n) = convI A n (tKind P s) (tKind P d)) ∧ (∀ (A : AH) n q k, convI A n (some (.int q)) (some (.int k)) = some (.int k (k.wrap n), A)) ∧
    (∀ nx A s d (x : Sl), aConvert P nx A s d x.v = convB A x (tBytes P s) (tKind P s) (tKind P d)) ∧
    (∀ A (x : Sl) b, convB A x b (some .slice) (some .str) = if b = true then (if x.nl = true ∨ x.len = 0 then some (.string .empty, A) else (rowK x.o x.len (A.get x.b)).bind fun cs => (strOf cs).map fun l => (.string ⟨l.toArray⟩, A)) else none) ∧
    (∀ nx A s d (x : ByteArray), aConvert P nx A s d (.string x) = convT nx A x (tBytes P d) (tKind P s) (tKind P d)) ∧ (∀ nx A (x : ByteArray) b, convT nx A x b (some .str) (some .str) = some (.string x, A)) ∧
    (∀ nx A (x : ByteArray) b, convT nx A x b (some .str) (some .slice) = if b = true then some (.slice (some ⟨nx, 0, none⟩) x.size BIG, A.newAt nx (.cells (bytesOf x) 1)) else none) ∧
    (strOf [] = some []) ∧ (∀ n r, strOf (.int .u8 n :: r) = (strOf r).map (UInt8.ofNat n.toNat :: ·)) ∧ (∀ (a : UInt8) (l : List UInt8), (ByteArray.mk (a :: l).toArray).size = l.length + 1) ∧ ((ByteArray.mk #[]).size = 0) ∧ (ByteArray.empty.size = 0) ∧
    (∀ t a b, aBin P .eql t (.bool a) (.bool b) = if tKind P t = some .bool then some (.bool (a == b)) else none) ∧ (∀ t a b, aBin P .neq t (.bool a) (.bool b) = if tKind P t = some .bool then some (.bool (!(a == b))) else none) ∧
    (∀ t a b, aBin P .lss t (.string a) (.string b) = some (.bool (Op.bytesLess a.toList b.toList))) ∧ (∀ t a b, aBin P .leq t (.string a) (.string b) = some (.bool (Op.bytesLess a.toList b.toList || a.toList == b.toList))) ∧
    (∀ t a b, aBin P .gtr t (.string a) (.string b) = some (.bool (!(Op.bytesLess a.toList b.toList || a.toList == b.toList)))) ∧ (∀ t a b, aBin P .geq t (.string a) (.string b) = some (.bool (!(Op.bytesLess a.toList b.toList)))) :=
  ⟨fun h => if_pos h, fun h => if_pos h, fun h => if_pos h, fun h => if_pos h, fun h => if_pos h, fun h => if_pos h, fun h => if_pos h, fun h => if_pos h, fun h => if_pos h, fun h => if_pos h, fun h => if_pos h, fun _ k a b => by simp [aBin, aInt], fun _ k a b => by simp [aBin, aInt], fun _ _ _ _ _ => rfl, fun _ _ _ _ _ => rfl, fun _ k a b => by simp [aBin, aInt], fun _ k a b => by simp [aBin, aInt],
    fun _ k a b => by simp [aBin, aInt], fun _ _ h => Int.tmod_eq_emod_of_nonneg h, fun _ _ h => Int.tdiv_eq_ediv_of_nonneg h, fun nx A s d k n => aConvert_int P nx A s d k n, fun _ _ _ _ => rfl, fun nx A s d x => aConvert_sl P nx A s d x, fun _ _ _ => rfl,
    fun nx A s d x => aConvert_str P nx A s d x, fun _ _ _ _ => rfl, fun _ _ _ _ => rfl, rfl, fun _ _ => rfl, fun _ _ => rfl, rfl, rfl, aBin_eqb P, aBin_neb P, fun _ _ _ => rfl, fun _ _ _ => rfl, fun _ _ _ => rfl, fun _ _ _ => rfl⟩
end Go.AM
