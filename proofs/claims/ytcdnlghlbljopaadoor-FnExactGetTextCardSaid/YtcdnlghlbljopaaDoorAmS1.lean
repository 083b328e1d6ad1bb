/- Soundness of the abstract machine, first part: how an abstract heap and a world belong together. -/
import Derived.Test.YtcdnlghlbljopaaDoorAmC
import Derived.Laws.Cells
import Derived.Laws.StructEq
namespace Go.AM
open Go Go.RowKit

/-- Where the abstract blocks lie in the world: block, first cell; how many cells the world's row has; an element's cells. -/
structure Emb where
  dom : Nat → Prop
  r : Nat → Nat
  s : Nat → Nat
  k : Nat → Nat
  e : Nat → Nat
structure Emb.Le (m m' : Emb) : Prop where
  dom : ∀ b, m.dom b → m'.dom b
  r : ∀ b, m.dom b → m'.r b = m.r b
  s : ∀ b, m.dom b → m'.s b = m.s b
  k : ∀ b, m.dom b → m'.k b = m.k b
  e : ∀ b, m.dom b → m'.e b = m.e b
theorem Emb.Le.refl (m : Emb) : m.Le m := ⟨fun _ h => h, fun _ _ => rfl, fun _ _ => rfl, fun _ _ => rfl, fun _ _ => rfl⟩
theorem Emb.Le.trans {a b c : Emb} (h : a.Le b) (k : b.Le c) : a.Le c :=
  ⟨fun x hx => k.dom x (h.dom x hx), fun x hx => (k.r x (h.dom x hx)).trans (h.r x hx), fun x hx => (k.s x (h.dom x hx)).trans (h.s x hx),
    fun x hx => (k.k x (h.dom x hx)).trans (h.k x hx), fun x hx => (k.e x (h.dom x hx)).trans (h.e x hx)⟩

mutual
/-- An abstract value and the world's. -/
inductive VRel (m : Emb) : Value → Value → Prop
  | bool (b : Bool) : VRel m (.bool b) (.bool b)
  | int (k : IntKind) (n : Int) : VRel m (.int k n) (.int k n)
  | string (s : ByteArray) : VRel m (.string s) (.string s)
  | ptrNil : VRel m (.pointer none) (.pointer none)
  | ptr (b o : Nat) (h : m.dom b) : VRel m (.pointer (some ⟨b, o, none⟩)) (.pointer (some ⟨m.r b, m.s b + o, none⟩))
  | slNil : VRel m (.slice none 0 0) (.slice none 0 0)
  | slEmpty (p p' : Addr) (c : Nat) (hc : c = 0 ∨ c = BIG) (hd : c = BIG → m.dom p.block) : VRel m (.slice (some p) 0 c) (.slice (some p') 0 0)
  | slExact (b o n c : Nat) (h : m.dom b) (hc : c < BIG) (hn : n ≤ c) : VRel m (.slice (some ⟨b, o, none⟩) n c) (.slice (some ⟨m.r b, m.s b + o, none⟩) n c)
  | slBig (b o n c : Nat) (h : m.dom b) (hn : n ≤ c) (hk : c * m.e b + (m.s b + o) = m.k b) : VRel m (.slice (some ⟨b, o, none⟩) n BIG) (.slice (some ⟨m.r b, m.s b + o, none⟩) n c)
  | mapNil : VRel m (.map none) (.map none)
  | map (b : Nat) (h : m.dom b) : VRel m (.map (some b)) (.map (some (m.r b)))
  | nilFunc : VRel m .nilFunc .nilFunc
  | func (fn : Fn) (f f' c c' : Array Value) (h : VRels m f.toList f'.toList) (k : VRels m c.toList c'.toList) : VRel m (.func fn f c) (.func fn f' c')
  | nilIface : VRel m .nilIface .nilIface
  | iface (t : TypeId) (v v' : Value) (h : VRel m v v') : VRel m (.iface t v) (.iface t v')
  | agg (cs cs' : Array Value) (h : VRels m cs.toList cs'.toList) (h1 : ∀ v ∈ cs.toList, v.oneCell' = true) : VRel m (.agg cs) (.agg cs')
  | tuple (vs vs' : Array Value) (h : VRels m vs.toList vs'.toList) : VRel m (.tuple vs) (.tuple vs')
inductive VRels (m : Emb) : List Value → List Value → Prop
  | nil : VRels m [] []
  | cons (v v' : Value) (l l' : List Value) (h : VRel m v v') (k : VRels m l l') : VRels m (v :: l) (v' :: l')
end

mutual
theorem VRel.mono {m m' : Emb} (hm : m.Le m') : ∀ {v v' : Value}, VRel m v v' → VRel m' v v'
  | _, _, .bool b => .bool b
  | _, _, .int k n => .int k n
  | _, _, .string s => .string s
  | _, _, .ptrNil => .ptrNil
  | _, _, .ptr b o h => by rw [← hm.r b h, ← hm.s b h]; exact .ptr b o (hm.dom b h)
  | _, _, .slNil => .slNil
  | _, _, .slEmpty p p' c hc hd => .slEmpty p p' c hc fun h => hm.dom _ (hd h)
  | _, _, .slExact b o n c h hc hn => by rw [← hm.r b h, ← hm.s b h]; exact .slExact b o n c (hm.dom b h) hc hn
  | _, _, .slBig b o n c h hn hk => by rw [← hm.r b h, ← hm.s b h]; exact .slBig b o n c (hm.dom b h) hn (by rw [hm.e b h, hm.s b h, hm.k b h]; exact hk)
  | _, _, .mapNil => .mapNil
  | _, _, .map b h => by rw [← hm.r b h]; exact .map b (hm.dom b h)
  | _, _, .nilFunc => .nilFunc
  | _, _, .func fn f f' c c' h k => .func fn f f' c c' (h.mono hm) (k.mono hm)
  | _, _, .nilIface => .nilIface
  | _, _, .iface t v v' h => .iface t v v' (h.mono hm)
  | _, _, .agg cs cs' h h1 => .agg cs cs' (h.mono hm) h1
  | _, _, .tuple vs vs' h => .tuple vs vs' (h.mono hm)
theorem VRels.mono {m m' : Emb} (hm : m.Le m') : ∀ {l l' : List Value}, VRels m l l' → VRels m' l l'
  | _, _, .nil => .nil
  | _, _, .cons v v' l l' h k => .cons v v' l l' (h.mono hm) (k.mono hm)
end

theorem zeroNe : (0 : Nat) = BIG → False := by decide
namespace VRels
variable {m : Emb}
theorem length : ∀ {l l' : List Value}, VRels m l l' → l.length = l'.length
  | _, _, .nil => rfl
  | _, _, .cons _ _ _ _ _ k => by simp [length k]
theorem get : ∀ {l l' : List Value}, VRels m l l' → ∀ {i : Nat} {v : Value}, l[i]? = some v → ∃ v', l'[i]? = some v' ∧ VRel m v v'
  | _, _, .nil, _, _, h => by simp at h
  | _, _, .cons v v' l l' h k, 0, u, hu => by simp at hu; subst hu; exact ⟨v', rfl, h⟩
  | _, _, .cons v v' l l' h k, i + 1, u, hu => by simpa using get k (by simpa using hu)
theorem of_get : ∀ {l l' : List Value}, l.length = l'.length → (∀ (i : Nat) (v : Value), l[i]? = some v → ∃ v', l'[i]? = some v' ∧ VRel m v v') → VRels m l l'
  | [], [], _, _ => .nil
  | [], _ :: _, h, _ => by simp at h
  | _ :: _, [], h, _ => by simp at h
  | v :: l, v' :: l', h, k => by
    obtain ⟨u, hu, hr⟩ := k 0 v rfl
    simp at hu; subst hu
    exact .cons _ _ _ _ hr (of_get (by simpa using h) fun i w hw => by simpa using k (i + 1) w (by simpa using hw))
theorem append {a a' b b' : List Value} (h : VRels m a a') (k : VRels m b b') : VRels m (a ++ b) (a' ++ b') := by
  induction a generalizing a' with
  | nil => cases h; exact k
  | cons v l ih => cases h with | cons _ v' _ l' h1 h2 => exact .cons _ _ _ _ h1 (ih h2)
theorem take {a a' : List Value} (n : Nat) (h : VRels m a a') : VRels m (a.take n) (a'.take n) := by
  induction n generalizing a a' with
  | zero => simpa using .nil
  | succ n ih => cases h with
    | nil => simpa using .nil
    | cons _ _ _ _ h1 h2 => simpa using .cons _ _ _ _ h1 (ih h2)
theorem drop {a a' : List Value} (n : Nat) (h : VRels m a a') : VRels m (a.drop n) (a'.drop n) := by
  induction n generalizing a a' with
  | zero => simpa using h
  | succ n ih => cases h with
    | nil => simpa using .nil
    | cons _ _ _ _ h1 h2 => simpa using ih h2
theorem set {a a' : List Value} (i : Nat) {v v' : Value} (h : VRels m a a') (hv : VRel m v v') : VRels m (a.set i v) (a'.set i v') := by
  induction i generalizing a a' with
  | zero => cases h with
    | nil => simpa using .nil
    | cons _ _ _ _ h1 h2 => simpa using .cons _ _ _ _ hv h2
  | succ n ih => cases h with
    | nil => simpa using .nil
    | cons _ _ _ _ h1 h2 => simpa using .cons _ _ _ _ h1 (ih h2)
theorem setCells {a a' : List Value} {vs vs' : List Value} (o : Nat) (h : VRels m a a') (hv : VRels m vs vs') : VRels m (setCells a o vs) (setCells a' o vs') := by
  induction vs generalizing a a' o vs' with
  | nil => cases hv; exact h
  | cons v l ih => cases hv with | cons _ v' _ l' h1 h2 => exact ih _ (h.set o h1) h2
theorem map {α : Type} (f g : α → Value) (l : List α) (h : ∀ x ∈ l, VRel m (f x) (g x)) : VRels m (l.map f) (l.map g) := by
  induction l with
  | nil => exact .nil
  | cons x l ih => exact .cons _ _ _ _ (h x (by simp)) (ih fun y hy => h y (by simp [hy]))
theorem single {v v' : Value} (h : VRel m v v') : VRels m [v] [v'] := .cons _ _ _ _ h .nil
theorem flatten_replicate {z : List Value} (n : Nat) (h : VRels m z z) : VRels m (List.replicate n z).flatten (List.replicate n z).flatten := by
  induction n with
  | zero => exact .nil
  | succ n ih => rw [List.replicate_succ, List.flatten_cons]; exact h.append ih
end VRels

theorem VRel.oneCell {m : Emb} {v v' : Value} (h : VRel m v v') : v'.oneCell' = v.oneCell' := by cases h <;> rfl
theorem VRel.undef (m : Emb) : VRel m Go.undef Go.undef := .tuple _ _ .nil
theorem VRel.ground1 (m : Emb) {v : Value} (h : ground1 v = true) : VRel m v v := by
  unfold AM.ground1 at h
  split at h <;> first | (cases h; done) | skip
  · exact .bool _
  · exact .int _ _
  · exact .string _
  · exact .ptrNil
  · exact .slNil
  · exact .mapNil
  · exact .nilFunc
  · exact .nilIface
theorem ground1_oneCell {v : Value} (h : ground1 v = true) : v.oneCell' = true := by
  unfold AM.ground1 at h
  split at h <;> first | (cases h; done) | rfl
theorem VRels.ground1 (m : Emb) : ∀ {l : List Value}, (∀ v ∈ l, AM.ground1 v = true) → VRels m l l
  | [], _ => .nil
  | v :: l, h => .cons _ _ _ _ (VRel.ground1 m (h v (by simp))) (VRels.ground1 m fun u hu => h u (by simp [hu]))
theorem VRel.ground (m : Emb) {v : Value} (h : ground v = true) : VRel m v v := by
  unfold AM.ground at h
  split at h
  · rename_i cs
    have h' : ∀ v ∈ cs.toList, AM.ground1 v = true := List.all_eq_true.1 h
    exact .agg _ _ (VRels.ground1 m h') fun v hv => ground1_oneCell (h' v hv)
  · exact VRel.ground1 m h
/-- The cells of related values. -/
theorem VRel.acells {m : Emb} {v v' : Value} {cs : List Value} (h : VRel m v v') (hc : acells v = some cs) :
    ∃ cs', acells v' = some cs' ∧ v'.cells.toList = cs' ∧ VRels m cs cs' ∧ ∀ x ∈ cs, x.oneCell' = true := by
  cases h <;> simp only [AM.acells, Option.some.injEq] at hc <;> first
    | (subst hc; refine ⟨_, rfl, rfl, VRels.single (by constructor <;> assumption), by simp [Value.oneCell']⟩)
    | skip
  case agg c c' h h1 => subst hc; exact ⟨_, rfl, rfl, h, h1⟩
  case tuple => cases hc

/-! ### The heap -/
def CRel (m : Emb) (s : Nat) (c : List Value) (c' : Array Value) : Prop :=
  ∀ (i : Nat) (v : Value), c[i]? = some v → v.oneCell' = true ∧ ∃ v', c'[s + i]? = some v' ∧ VRel m v v'
def FreeRow (fz : Nat × Nat) (n : Nat) : Prop := ∀ o, o < n → ¬ (fz.1 ≤ o ∧ o < fz.2)
def ERel (m : Emb) (es : List (Value × Value)) (es' : List MapEntry) : Prop :=
  es.length = es'.length ∧ ∀ (i : Nat) (k v : Value), es[i]? = some (k, v) → ∃ en, es'[i]? = some en ∧ VRel m k en.key ∧ VRel m v en.val
theorem CRel.mono {m m' : Emb} (hm : m.Le m') {s : Nat} {c : List Value} {c' : Array Value} (h : CRel m s c c') : CRel m' s c c' :=
  fun i v hv => ⟨(h i v hv).1, let ⟨v', h1, h2⟩ := (h i v hv).2; ⟨v', h1, h2.mono hm⟩⟩
theorem ERel.mono {m m' : Emb} (hm : m.Le m') {es : List (Value × Value)} {es' : List MapEntry} (h : ERel m es es') : ERel m' es es' :=
  ⟨h.1, fun i k v hv => let ⟨en, h1, h2, h3⟩ := h.2 i k v hv; ⟨en, h1, h2.mono hm, h3.mono hm⟩⟩

/-- The abstract heap A and the world w belong together: the law's own blocks (from number ro on) lie from the world's block base on, apart from one another; below base the world is as w0 was. -/
structure Sim (ng ro base : Nat) (w0 : World) (m : Emb) (A : AH) (w : World) : Prop where
  glob : ∀ g, g < ng → m.dom g ∧ m.r g = g ∧ m.s g = 0
  dlt : ∀ b, m.dom b → b < A.size
  cells : ∀ b c e, A.get b = .cells c e → m.dom b ∧ ∃ c' el fz, w.heap[m.r b]? = some (.cells c' el fz) ∧ m.e b = e ∧ m.k b = c'.size ∧ m.s b + c.length ≤ c'.size ∧
    CRel m (m.s b) c c' ∧ (ro ≤ b → FreeRow fz c'.size)
  maps : ∀ b es, A.get b = .map es → m.dom b ∧ ∃ es' cl, w.heap[m.r b]? = some (.map es' cl) ∧ ERel m es es'.toList
  rw : ∀ b, A.get b ≠ .dead → ro ≤ b → base ≤ m.r b
  inj : ∀ b b', A.get b ≠ .dead → A.get b' ≠ .dead → ro ≤ b → ro ≤ b' → m.r b = m.r b' → b = b'
  lo : ∀ b, A.get b ≠ .dead → b < ro → m.r b < base
  bl : base ≤ w.heap.size
  rl : ro ≤ A.size
  old : Below base w0 w
/-- What a step does. -/
structure Step (ng ro base : Nat) (w0 : World) (m : Emb) (A : AH) (w : World) (m' : Emb) (A' : AH) (w' : World) : Prop where
  le : m.Le m'
  sim : Sim ng ro base w0 m' A' w'
  sz : A.size ≤ A'.size
  hsz : w.heap.size ≤ w'.heap.size
  frame : ∀ r, r < w.heap.size → (∀ b, A.get b ≠ .dead → m.r b ≠ r) → w'.heap[r]? = w.heap[r]?
  img : ∀ b, A'.get b ≠ .dead → (∃ b0, A.get b0 ≠ .dead ∧ m.r b0 = m'.r b) ∨ w.heap.size ≤ m'.r b
section
variable {ng ro base : Nat} {w0 : World} {m m' m'' : Emb} {A A' A'' : AH} {w w' w'' : World}
theorem Step.refl (h : Sim ng ro base w0 m A w) : Step ng ro base w0 m A w m A w :=
  ⟨.refl m, h, Nat.le_refl _, Nat.le_refl _, fun _ _ _ => rfl, fun b hb => .inl ⟨b, hb, rfl⟩⟩
theorem Step.trans (h : Step ng ro base w0 m A w m' A' w') (k : Step ng ro base w0 m' A' w' m'' A'' w'') : Step ng ro base w0 m A w m'' A'' w'' where
  le := h.le.trans k.le
  sim := k.sim
  sz := Nat.le_trans h.sz k.sz
  hsz := Nat.le_trans h.hsz k.hsz
  frame := fun r hr hn => by
    rw [k.frame r (Nat.lt_of_lt_of_le hr h.hsz) ?_, h.frame r hr hn]
    intro b hb he
    rcases h.img b hb with ⟨b0, h0, h1⟩ | h1
    · exact hn b0 h0 (h1.trans he)
    · omega
  img := fun b hb => by
    rcases k.img b hb with ⟨b1, h1, h2⟩ | h1
    · rcases h.img b1 h1 with ⟨b0, h0, h3⟩ | h3
      · exact .inl ⟨b0, h0, h3.trans h2⟩
      · exact .inr (by omega)
    · exact .inr (Nat.le_trans h.hsz h1)
/-- Every live block lies in the world. -/
theorem Sim.lt (h : Sim ng ro base w0 m A w) {b : Nat} (hb : A.get b ≠ .dead) : m.r b < w.heap.size := by
  cases ho : A.get b with
  | dead => exact absurd ho hb
  | cells c e =>
    obtain ⟨_, c', el, fz, h1, _⟩ := h.cells b c e ho
    rcases Nat.lt_or_ge (m.r b) w.heap.size with h2 | h2
    · exact h2
    · rw [Array.getElem?_eq_none h2] at h1; cases h1
  | map es =>
    obtain ⟨_, es', cl, h1, _⟩ := h.maps b es ho
    rcases Nat.lt_or_ge (m.r b) w.heap.size with h2 | h2
    · exact h2
    · rw [Array.getElem?_eq_none h2] at h1; cases h1
theorem Sim.dom_of (h : Sim ng ro base w0 m A w) {b : Nat} (hb : A.get b ≠ .dead) : m.dom b := by
  cases ho : A.get b with
  | dead => exact absurd ho hb
  | cells c e => exact (h.cells b c e ho).1
  | map es => exact (h.maps b es ho).1
theorem Sim.live_lt (h : Sim ng ro base w0 m A w) {b : Nat} (hb : A.get b ≠ .dead) : b < A.size := h.dlt b (h.dom_of hb)
end
end Go.AM
