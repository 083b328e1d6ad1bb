import Derived.Test.YtjlbcofopapajaaDoorAmA
import Derived.Laws.Cells
import Derived.Laws.StructEq
import Derived.Laws.IdiomCopy
import Derived.Laws.Small
namespace Go.AM
open Go Go.RowKit
structure Emb where
 dom : Nat → Prop
 r : Nat → Nat
 s : Nat → Nat
 k : Nat → Nat
 e : Nat → Nat
structure Emb.Le (m m' : Emb) : Prop where
 dom : ∀ b, m.dom b → m'.dom b
 r : ∀ b, m.dom b → m'.r b = m.r b
 s : ∀ b, m.dom b → m'.s b = m.s b
 k : ∀ b, m.dom b → m'.k b = m.k b
 e : ∀ b, m.dom b → m'.e b = m.e b
theorem Emb.Le.refl (m : Emb) : m.Le m := ⟨fun _ h => h, fun _ _ => rfl, fun _ _ => rfl, fun _ _ => rfl, fun _ _ => rfl⟩
theorem Emb.Le.trans {a b c : Emb} (h : a.Le b) (k : b.Le c) : a.Le c :=
 ⟨fun x hx => k.dom x (h.dom x hx), fun x hx => (k.r x (h.dom x hx)).trans (h.r x hx), fun x hx => (k.s x (h.dom x hx)).trans (h.s x hx),
  fun x hx => (k.k x (h.dom x hx)).trans (h.k x hx), fun x hx => (k.e x (h.dom x hx)).trans (h.e x hx)⟩
mutual
inductive VRel (m : Emb) : Value → Value → Prop
 | bool (b : Bool) : VRel m (.bool b) (.bool b)
 | int (k : IntKind) (n : Int) : VRel m (.int k n) (.int k n)
 | string (s : ByteArray) : VRel m (.string s) (.string s)
 | ptrNil : VRel m (.pointer none) (.pointer none)
 | ptr (b o : Nat) (h : m.dom b) : VRel m (.pointer (some ⟨b, o, none⟩)) (.pointer (some ⟨m.r b, m.s b + o, none⟩))
 | slNil : VRel m (.slice none 0 0) (.slice none 0 0)
 | slEmpty (p p' : Addr) (c : Nat) (hc : c = 0 ∨ c = BIG) (hd : c = BIG → m.dom p.block) : VRel m (.slice (some p) 0 c) (.slice (some p') 0 0)
 | slExact (b o n c : Nat) (h : m.dom b) (hc : c < BIG) (hn : n ≤ c) : VRel m (.slice (some ⟨b, o, none⟩) n c) (.slice (some ⟨m.r b, m.s b + o, none⟩) n c)
 | slBig (b o n c : Nat) (h : m.dom b) (hn : n ≤ c) (hk : c * m.e b + (m.s b + o) = m.k b) : VRel m (.slice (some ⟨b, o, none⟩) n BIG) (.slice (some ⟨m.r b, m.s b + o, none⟩) n c)
 | mapNil : VRel m (.map none) (.map none)
 | map (b : Nat) (h : m.dom b) : VRel m (.map (some b)) (.map (some (m.r b)))
 | nilFunc : VRel m .nilFunc .nilFunc
 | func (fn : Fn) (f f' c c' : Array Value) (h : VRels m f.toList f'.toList) (k : VRels m c.toList c'.toList) : VRel m (.func fn f c) (.func fn f' c')
 | nilIface : VRel m .nilIface .nilIface
 | iface (t : TypeId) (v v' : Value) (h : VRel m v v') : VRel m (.iface t v) (.iface t v')
 | agg (cs cs' : Array Value) (h : VRels m cs.toList cs'.toList) (h1 : ∀ v ∈ cs.toList, v.oneCell' = true) : VRel m (.agg cs) (.agg cs')
 | tuple (vs vs' : Array Value) (h : VRels m vs.toList vs'.toList) : VRel m (.tuple vs) (.tuple vs')
inductive VRels (m : Emb) : List Value → List Value → Prop
 | nil : VRels m [] []
 | cons (v v' : Value) (l l' : List Value) (h : VRel m v v') (k : VRels m l l') : VRels m (v :: l) (v' :: l')
end
mutual
theorem VRel.mono {m m' : Emb} (hm : m.Le m') : ∀ {v v' : Value}, VRel m v v' → VRel m' v v'
 | _, _, .bool b => .bool b
 | _, _, .int k n => .int k n
 | _, _, .string s => .string s
 | _, _, .ptrNil => .ptrNil
 | _, _, .ptr b o h => by rw [← hm.r b h, ← hm.s b h]; exact .ptr b o (hm.dom b h)
 | _, _, .slNil => .slNil
 | _, _, .slEmpty p p' c hc hd => .slEmpty p p' c hc fun h => hm.dom _ (hd h)
 | _, _, .slExact b o n c h hc hn => by rw [← hm.r b h, ← hm.s b h]; exact .slExact b o n c (hm.dom b h) hc hn
 | _, _, .slBig b o n c h hn hk => by rw [← hm.r b h, ← hm.s b h]; exact .slBig b o n c (hm.dom b h) hn (by rw [hm.e b h, hm.s b h, hm.k b h]; exact hk)
 | _, _, .mapNil => .mapNil
 | _, _, .map b h => by rw [← hm.r b h]; exact .map b (hm.dom b h)
 | _, _, .nilFunc => .nilFunc
 | _, _, .func fn f f' c c' h k => .func fn f f' c c' (h.mono hm) (k.mono hm)
 | _, _, .nilIface => .nilIface
 | _, _, .iface t v v' h => .iface t v v' (h.mono hm)
 | _, _, .agg cs cs' h h1 => .agg cs cs' (h.mono hm) h1
 | _, _, .tuple vs vs' h => .tuple vs vs' (h.mono hm)
theorem VRels.mono {m m' : Emb} (hm : m.Le m') : ∀ {l l' : List Value}, VRels m l l' → VRels m' l l'
 | _, _, .nil => .nil
 | _, _, .cons v v' l l' h k => .cons v v' l l' (h.mono hm) (k.mono hm)
end
theorem zeroNe : (0 : Nat) = BIG → False := by decide
namespace VRels
variable {m : Emb}
theorem length : ∀ {l l' : List Value}, VRels m l l' → l.length = l'.length
 | _, _, .nil => rfl
 | _, _, .cons _ _ _ _ _ k => by simp [length k]
theorem get : ∀ {l l' : List Value}, VRels m l l' → ∀ {i : Nat} {v : Value}, l[i]? = some v → ∃ v', l'[i]? = some v' ∧ VRel m v v'
 | _, _, .nil, _, _, h => by simp at h
 | _, _, .cons v v' l l' h k, 0, u, hu => by simp at hu; subst hu; exact ⟨v', rfl, h⟩
 | _, _, .cons v v' l l' h k, i + 1, u, hu => by simpa using get k (by simpa using hu)
theorem of_get : ∀ {l l' : List Value}, l.length = l'.length → (∀ (i : Nat) (v : Value), l[i]? = some v → ∃ v', l'[i]? = some v' ∧ VRel m v v') → VRels m l l'
 | [], [], _, _ => .nil
 | [], _ :: _, h, _ => by simp at h
 | _ :: _, [], h, _ => by simp at h
 | v :: l, v' :: l', h, k => by
   obtain ⟨u, hu, hr⟩ := k 0 v rfl
   simp at hu; subst hu
   exact .cons _ _ _ _ hr (of_get (by simpa using h) fun i w hw => by simpa using k (i + 1) w (by simpa using hw))
theorem append {a a' b b' : List Value} (h : VRels m a a') (k : VRels m b b') : VRels m (a ++ b) (a' ++ b') := by
 induction a generalizing a' with
 | nil => cases h; exact k
 | cons v l ih => cases h with | cons _ v' _ l' h1 h2 => exact .cons _ _ _ _ h1 (ih h2)
theorem take {a a' : List Value} (n : Nat) (h : VRels m a a') : VRels m (a.take n) (a'.take n) := by
 induction n generalizing a a' with
 | zero => simpa using .nil
 | succ n ih => cases h with
   | nil => simpa using .nil
   | cons _ _ _ _ h1 h2 => simpa using .cons _ _ _ _ h1 (ih h2)
theorem drop {a a' : List Value} (n : Nat) (h : VRels m a a') : VRels m (a.drop n) (a'.drop n) := by
 induction n generalizing a a' with
 | zero => simpa using h
 | succ n ih => cases h with
   | nil => simpa using .nil
   | cons _ _ _ _ h1 h2 => simpa using ih h2
theorem set {a a' : List Value} (i : Nat) {v v' : Value} (h : VRels m a a') (hv : VRel m v v') : VRels m (a.set i v) (a'.set i v') := by
 induction i generalizing a a' with
 | zero => cases h with
   | nil => simpa using .nil
   | cons _ _ _ _ h1 h2 => simpa using .cons _ _ _ _ hv h2
 | succ n ih => cases h with
   | nil => simpa using .nil
   | cons _ _ _ _ h1 h2 => simpa using .cons _ _ _ _ h1 (ih h2)
theorem setCells {a a' : List Value} {vs vs' : List Value} (o : Nat) (h : VRels m a a') (hv : VRels m vs vs') : VRels m (setCells a o vs) (setCells a' o vs') := by
 induction vs generalizing a a' o vs' with
 | nil => cases hv; exact h
 | cons v l ih => cases hv with | cons _ v' _ l' h1 h2 => exact ih _ (h.set o h1) h2
theorem map {α : Type} (f g : α → Value) (l : List α) (h : ∀ x ∈ l, VRel m (f x) (g x)) : VRels m (l.map f) (l.map g) := by
 induction l with
 | nil => exact .nil
 | cons x l ih => exact .cons _ _ _ _ (h x (by simp)) (ih fun y hy => h y (by simp [hy]))
theorem single {v v' : Value} (h : VRel m v v') : VRels m [v] [v'] := .cons _ _ _ _ h .nil
end VRels
theorem VRel.oneCell {m : Emb} {v v' : Value} (h : VRel m v v') : v'.oneCell' = v.oneCell' := by cases h <;> rfl
theorem VRel.undef (m : Emb) : VRel m Go.undef Go.undef := .tuple _ _ .nil
theorem VRel.ground1 (m : Emb) {v : Value} (h : ground1 v = true) : VRel m v v := by
 unfold AM.ground1 at h
 split at h <;> first | (cases h; done) | skip
 ·exact .bool _
 ·exact .int _ _
 ·exact .string _
 ·exact .ptrNil
 ·exact .slNil
 ·exact .mapNil
 ·exact .nilFunc
 ·exact .nilIface
theorem ground1_oneCell {v : Value} (h : ground1 v = true) : v.oneCell' = true := by
 unfold AM.ground1 at h
 split at h <;> first | (cases h; done) | rfl
theorem VRels.ground1 (m : Emb) : ∀ {l : List Value}, (∀ v ∈ l, AM.ground1 v = true) → VRels m l l
 | [], _ => .nil
 | v :: l, h => .cons _ _ _ _ (VRel.ground1 m (h v (by simp))) (VRels.ground1 m fun u hu => h u (by simp [hu]))
theorem VRel.ground (m : Emb) {v : Value} (h : ground v = true) : VRel m v v := by
 unfold AM.ground at h
 split at h
 ·rename_i cs
  have h' : ∀ v ∈ cs.toList, AM.ground1 v = true := List.all_eq_true.1 h
  exact .agg _ _ (VRels.ground1 m h') fun v hv => ground1_oneCell (h' v hv)
 ·exact VRel.ground1 m h
theorem VRel.acells {m : Emb} {v v' : Value} {cs : List Value} (h : VRel m v v') (hc : acells v = some cs) :
 ∃ cs', acells v' = some cs' ∧ v'.cells.toList = cs' ∧ VRels m cs cs' ∧ ∀ x ∈ cs, x.oneCell' = true := by
 cases h <;> simp only [AM.acells, Option.some.injEq] at hc <;> first
  | (subst hc; refine ⟨_, rfl, rfl, VRels.single (by constructor <;> assumption), by simp [Value.oneCell']⟩)
  | skip
 case agg c c' h h1 => subst hc; exact ⟨_, rfl, rfl, h, h1⟩
 case tuple => cases hc
def CRel (m : Emb) (s : Nat) (c : List Value) (c' : Array Value) : Prop :=
 ∀ (i : Nat) (v : Value), c[i]? = some v → v.oneCell' = true ∧ ∃ v', c'[s + i]? = some v' ∧ VRel m v v'
def FreeRow (fz : Nat × Nat) (n : Nat) : Prop := ∀ o, o < n → ¬ (fz.1 ≤ o ∧ o < fz.2)
def ERel (m : Emb) (es : List (Value × Value)) (es' : List MapEntry) : Prop :=
 es.length = es'.length ∧ ∀ (i : Nat) (k v : Value), es[i]? = some (k, v) → ∃ en, es'[i]? = some en ∧ VRel m k en.key ∧ VRel m v en.val
theorem CRel.mono {m m' : Emb} (hm : m.Le m') {s : Nat} {c : List Value} {c' : Array Value} (h : CRel m s c c') : CRel m' s c c' :=
 fun i v hv => ⟨(h i v hv).1, let ⟨v', h1, h2⟩ := (h i v hv).2; ⟨v', h1, h2.mono hm⟩⟩
theorem ERel.mono {m m' : Emb} (hm : m.Le m') {es : List (Value × Value)} {es' : List MapEntry} (h : ERel m es es') : ERel m' es es' :=
 ⟨h.1, fun i k v hv => let ⟨en, h1, h2, h3⟩ := h.2 i k v hv; ⟨en, h1, h2.mono hm, h3.mono hm⟩⟩
structure ETag (me e : Nat) (el : TypeId) (fz : Nat × Nat) (s n : Nat) : Prop where
 sz : me = esz e
 tag : TAG ≤ e → el = (e - TAG) / 2 ∧ fz = (0, 0) ∧ s = 0 ∧ ((e - TAG) % 2 = 1 → n = 2)
theorem ETag.of {e : Nat} {el : TypeId} {fz : Nat × Nat} {s n : Nat} (h : e < TAG) : ETag e e el fz s n := ⟨(if_pos h).symm, fun k => absurd h (Nat.not_lt.2 k)⟩
theorem esz_tag (el : Nat) : esz (TAG + el) = 1 := if_neg (Nat.not_lt.2 (Nat.le_add_right TAG el))
theorem tag_even (el : Nat) : (TAG + 2 * el - TAG) / 2 = el ∧ (TAG + 2 * el - TAG) % 2 = 0 := by rw [Nat.add_sub_cancel_left]; omega
theorem tag_odd (el : Nat) : (TAG + (2 * el + 1) - TAG) / 2 = el ∧ (TAG + (2 * el + 1) - TAG) % 2 = 1 := by rw [Nat.add_sub_cancel_left]; omega
theorem ETag.tagged (el : TypeId) {s n : Nat} (h : s = 0) : ETag 1 (TAG + 2 * el) el (0, 0) s n := ⟨(esz_tag _).symm, fun _ => ⟨(tag_even el).1.symm, rfl, h, fun k => by have := (tag_even el).2; omega⟩⟩
theorem odd_tag (t : Nat) : 1099511627777 + 2 * t = TAG + (2 * t + 1) := by unfold TAG; omega
theorem ETag.one (el : TypeId) {s : Nat} (h : s = 0) : ETag 1 (TAG + (2 * el + 1)) el (0, 0) s 2 := ⟨(esz_tag _).symm, fun _ => ⟨(tag_odd el).1.symm, rfl, h, fun _ => rfl⟩⟩
theorem esz_lt {e : Nat} (h : e < TAG) : esz e = e := if_pos h
structure Sim (ng ro base : Nat) (w0 : World) (m : Emb) (A : AH) (w : World) : Prop where
 glob : ∀ g, g < ng → m.dom g ∧ m.r g = g ∧ m.s g = 0
 dlt : ∀ b, m.dom b → b < A.size
 cells : ∀ b c e, A.get b = .cells c e → m.dom b ∧ ∃ c' el fz, w.heap[m.r b]? = some (.cells c' el fz) ∧ ETag (m.e b) e el fz (m.s b) c'.size ∧ m.k b = c'.size ∧ m.s b + c.length ≤ c'.size ∧
  CRel m (m.s b) c c' ∧ (ro ≤ b → FreeRow fz c'.size)
 maps : ∀ b es, A.get b = .map es → m.dom b ∧ ∃ es' cl, w.heap[m.r b]? = some (.map es' cl) ∧ ERel m es es'.toList
 rw : ∀ b, A.get b ≠ .dead → ro ≤ b → base ≤ m.r b
 inj : ∀ b b', A.get b ≠ .dead → A.get b' ≠ .dead → ro ≤ b → ro ≤ b' → m.r b = m.r b' → b = b'
 lo : ∀ b, A.get b ≠ .dead → b < ro → m.r b < base
 bl : base ≤ w.heap.size
 rl : ro ≤ A.size
 old : Below base w0 w
structure Step (ng ro base : Nat) (w0 : World) (m : Emb) (A : AH) (w : World) (m' : Emb) (A' : AH) (w' : World) : Prop where
 le : m.Le m'
 sim : Sim ng ro base w0 m' A' w'
 sz : A.size ≤ A'.size
 hsz : w.heap.size ≤ w'.heap.size
 frame : ∀ r, r < w.heap.size → (∀ b, A.get b ≠ .dead → m.r b ≠ r) → w'.heap[r]? = w.heap[r]?
 img : ∀ b, A'.get b ≠ .dead → (∃ b0, A.get b0 ≠ .dead ∧ m.r b0 = m'.r b) ∨ w.heap.size ≤ m'.r b
section
variable {ng ro base : Nat} {w0 : World} {m m' m'' : Emb} {A A' A'' : AH} {w w' w'' : World}
theorem Step.refl (h : Sim ng ro base w0 m A w) : Step ng ro base w0 m A w m A w :=
 ⟨.refl m, h, Nat.le_refl _, Nat.le_refl _, fun _ _ _ => rfl, fun b hb => .inl ⟨b, hb, rfl⟩⟩
theorem Step.trans (h : Step ng ro base w0 m A w m' A' w') (k : Step ng ro base w0 m' A' w' m'' A'' w'') : Step ng ro base w0 m A w m'' A'' w'' where
 le := h.le.trans k.le
 sim := k.sim
 sz := Nat.le_trans h.sz k.sz
 hsz := Nat.le_trans h.hsz k.hsz
 frame := fun r hr hn => by
  rw [k.frame r (Nat.lt_of_lt_of_le hr h.hsz) ?_, h.frame r hr hn]
  intro b hb he
  rcases h.img b hb with ⟨b0, h0, h1⟩ | h1
  ·exact hn b0 h0 (h1.trans he)
  ·omega
 img := fun b hb => by
  rcases k.img b hb with ⟨b1, h1, h2⟩ | h1
  ·rcases h.img b1 h1 with ⟨b0, h0, h3⟩ | h3
   ·exact .inl ⟨b0, h0, h3.trans h2⟩
   ·exact .inr (by omega)
  ·exact .inr (Nat.le_trans h.hsz h1)
theorem Sim.lt (h : Sim ng ro base w0 m A w) {b : Nat} (hb : A.get b ≠ .dead) : m.r b < w.heap.size := by
 cases ho : A.get b with
 | dead => exact absurd ho hb
 | cells c e =>
   obtain ⟨_, c', el, fz, h1, _⟩ := h.cells b c e ho
   rcases Nat.lt_or_ge (m.r b) w.heap.size with h2 | h2
   ·exact h2
   ·rw [Array.getElem?_eq_none h2] at h1; cases h1
 | map es =>
   obtain ⟨_, es', cl, h1, _⟩ := h.maps b es ho
   rcases Nat.lt_or_ge (m.r b) w.heap.size with h2 | h2
   ·exact h2
   ·rw [Array.getElem?_eq_none h2] at h1; cases h1
theorem Sim.dom_of (h : Sim ng ro base w0 m A w) {b : Nat} (hb : A.get b ≠ .dead) : m.dom b := by
 cases ho : A.get b with
 | dead => exact absurd ho hb
 | cells c e => exact (h.cells b c e ho).1
 | map es => exact (h.maps b es ho).1
theorem Sim.live_lt (h : Sim ng ro base w0 m A w) {b : Nat} (hb : A.get b ≠ .dead) : b < A.size := h.dlt b (h.dom_of hb)
end
end Go.AM
namespace Go.AM
open Go Go.RowKit
def Emb.add (m : Emb) (b r s k e : Nat) : Emb where
 dom x := m.dom x ∨ x = b
 r x := if x = b then r else m.r x
 s x := if x = b then s else m.s x
 k x := if x = b then k else m.k x
 e x := if x = b then e else m.e x
theorem Emb.add_le {m : Emb} {b r s k e : Nat} (h : ¬ m.dom b) : m.Le (m.add b r s k e) where
 dom := fun _ h => .inl h
 r := fun x hx => if_neg (by rintro rfl; exact h hx)
 s := fun x hx => if_neg (by rintro rfl; exact h hx)
 k := fun x hx => if_neg (by rintro rfl; exact h hx)
 e := fun x hx => if_neg (by rintro rfl; exact h hx)
def DomOk (m m' : Emb) (n : Nat) : Prop := ∀ b, m'.dom b → m.dom b ∨ b = n
theorem DomOk.add {m : Emb} {b r s k e : Nat} : DomOk m (m.add b r s k e) b := fun _ h => h
theorem DomOk.refl {m : Emb} {n : Nat} : DomOk m m n := fun _ h => .inl h
@[simp] theorem Emb.add_dom {m : Emb} {b r s k e : Nat} : (m.add b r s k e).dom b := .inr rfl
@[simp] theorem Emb.add_r {m : Emb} {b r s k e : Nat} : (m.add b r s k e).r b = r := if_pos rfl
@[simp] theorem Emb.add_s {m : Emb} {b r s k e : Nat} : (m.add b r s k e).s b = s := if_pos rfl
@[simp] theorem Emb.add_k {m : Emb} {b r s k e : Nat} : (m.add b r s k e).k b = k := if_pos rfl
@[simp] theorem Emb.add_e {m : Emb} {b r s k e : Nat} : (m.add b r s k e).e b = e := if_pos rfl
section
variable {ng ro base : Nat} {w0 : World} {m : Emb} {A : AH} {w w' : World}
theorem Sim.fresh (h : Sim ng ro base w0 m A w) : ¬ m.dom A.size := fun hd => Nat.lt_irrefl _ (h.dlt _ hd)
theorem AH.get_new_ne {o : AObj} {b n : Nat} (h : b ≠ n) : (A.newAt n o).get b = A.get b := if_neg h
theorem AH.get_new {o : AObj} {n : Nat} : (A.newAt n o).get n = o := if_pos rfl
theorem AH.get_put {o : AObj} {b : Nat} : (A.put b o).get b = o := if_pos rfl
theorem AH.get_put_ne {o : AObj} {b b' : Nat} (h : b' ≠ b) : (A.put b o).get b' = A.get b' := if_neg h
theorem push_lt {w w' : World} {ob : Obj} (hw : w'.heap = w.heap.push ob) {i : Nat} (hi : i < w.heap.size) : w'.heap[i]? = w.heap[i]? := by
 rw [hw, Array.getElem?_push, if_neg (by omega)]
theorem push_at {w w' : World} {ob : Obj} (hw : w'.heap = w.heap.push ob) : w'.heap[w.heap.size]? = some ob := by
 rw [hw, Array.getElem?_push, if_pos rfl]
theorem new_live {o : AObj} {b n : Nat} (h : (A.newAt n o).get b ≠ .dead) : b = n ∨ A.get b ≠ .dead := by
 by_cases hb : b = n
 ·exact .inl hb
 ·exact .inr (by rwa [AH.get_new_ne hb] at h)
theorem Step.new {n : Nat} (hn : ¬ m.dom n) (hro : ro ≤ n) {c : List Value} {e me : Nat} {c' : Array Value} {el : TypeId} {fz : Nat × Nat} (h : Sim ng ro base w0 m A w) (hw : w'.heap = w.heap.push (.cells c' el fz)) (ho : w'.os = w.os)
 (ht : w'.tape = w.tape) (hu : w'.output = w.output) (hl : c.length ≤ c'.size) (hc : CRel m 0 c c') (hf : FreeRow fz c'.size) (he : ETag me e el fz 0 c'.size) :
 Step ng ro base w0 m A w (m.add n w.heap.size 0 c'.size me) (A.newAt n (.cells c e)) w' := by
 have hle := Emb.add_le (r := w.heap.size) (s := 0) (k := c'.size) (e := me) hn
 have hs : w'.heap.size = w.heap.size + 1 := by rw [hw]; simp
 have hr : ∀ b, A.get b ≠ .dead → (m.add n w.heap.size 0 c'.size me).r b = m.r b := fun b hb => hle.r b (h.dom_of hb)
 refine ⟨hle, ?_, Nat.le_max_left _ _, by omega, fun r hr _ => push_lt hw hr, ?_⟩
 ·refine ⟨fun g hg => ?_, ?_, ?_, ?_, ?_, ?_, ?_, by have := h.bl; omega, Nat.le_trans h.rl (Nat.le_max_left _ _), ?_⟩
  ·obtain ⟨h1, h2, h3⟩ := h.glob g hg
   exact ⟨.inl h1, (hle.r g h1).trans h2, (hle.s g h1).trans h3⟩
  ·rintro b (hb | rfl)
   ·exact Nat.lt_of_lt_of_le (h.dlt b hb) (Nat.le_max_left _ _)
   ·exact Nat.lt_of_lt_of_le (Nat.lt_succ_self _) (Nat.le_max_right _ _)
  ·intro b c2 e2 hb
   by_cases hbs : b = n
   ·subst hbs
    rw [AH.get_new] at hb
    cases hb
    exact ⟨.inr rfl, c', el, fz, by simpa using push_at hw, by simpa using he, by simp, by simpa using hl, by simpa using hc.mono hle, fun _ => hf⟩
   ·rw [AH.get_new_ne hbs] at hb
    obtain ⟨hd, c2', el2, fz2, h1, h2, h3, h4, h5, h6⟩ := h.cells b c2 e2 hb
    have hlt := h.lt (b := b) (by rw [hb]; simp)
    refine ⟨.inl hd, c2', el2, fz2, ?_, ?_, ?_, ?_, ?_, h6⟩
    ·rw [hle.r b hd, push_lt hw hlt, h1]
    ·rw [hle.e b hd, hle.s b hd]; exact h2
    ·rw [hle.k b hd, h3]
    ·rw [hle.s b hd]; exact h4
    ·rw [hle.s b hd]; exact h5.mono hle
  ·intro b es hb
   by_cases hbs : b = n
   ·subst hbs; rw [AH.get_new] at hb; cases hb
   ·rw [AH.get_new_ne hbs] at hb
    obtain ⟨hd, es', cl, h1, h2⟩ := h.maps b es hb
    have hlt := h.lt (b := b) (by rw [hb]; simp)
    exact ⟨.inl hd, es', cl, by rw [hle.r b hd, push_lt hw hlt, h1], h2.mono hle⟩
  ·intro b hb hbo
   rcases new_live hb with rfl | hb
   ·simpa using h.bl
   ·rw [hr b hb]; exact h.rw b hb hbo
  ·intro b b' hb hb' hbo hbo' he
   rcases new_live hb with hbn | hb <;> rcases new_live hb' with hbn' | hb'
   ·exact hbn.trans hbn'.symm
   ·rw [hr b' hb', hbn] at he; simp at he; have := h.lt hb'; omega
   ·rw [hr b hb, hbn'] at he; simp at he; have := h.lt hb; omega
   ·rw [hr b hb, hr b' hb'] at he; exact h.inj b b' hb hb' hbo hbo' he
  ·intro b hb hbo
   rcases new_live hb with rfl | hb
   ·omega
   ·rw [hr b hb]; exact h.lo b hb hbo
  ·exact h.old.trans ⟨ho, ht, hu, by omega, fun k hk => push_lt hw (by have := h.bl; omega)⟩
 ·intro b hb
  rcases new_live hb with rfl | hb
  ·right; simp
  ·left; exact ⟨b, hb, (hr b hb).symm⟩
theorem Step.newMap {n : Nat} (hn : ¬ m.dom n) (hro : ro ≤ n) {cl : Nat} (h : Sim ng ro base w0 m A w) (hw : w'.heap = w.heap.push (.map #[] cl)) (ho : w'.os = w.os)
 (ht : w'.tape = w.tape) (hu : w'.output = w.output) : Step ng ro base w0 m A w (m.add n w.heap.size 0 0 0) (A.newAt n (.map [])) w' := by
 have hle := Emb.add_le (r := w.heap.size) (s := 0) (k := 0) (e := 0) hn
 have hs : w'.heap.size = w.heap.size + 1 := by rw [hw]; simp
 have hr : ∀ b, A.get b ≠ .dead → (m.add n w.heap.size 0 0 0).r b = m.r b := fun b hb => hle.r b (h.dom_of hb)
 refine ⟨hle, ?_, Nat.le_max_left _ _, by omega, fun r hr _ => push_lt hw hr, ?_⟩
 ·refine ⟨fun g hg => ?_, ?_, ?_, ?_, ?_, ?_, ?_, by have := h.bl; omega, Nat.le_trans h.rl (Nat.le_max_left _ _), ?_⟩
  ·obtain ⟨h1, h2, h3⟩ := h.glob g hg
   exact ⟨.inl h1, (hle.r g h1).trans h2, (hle.s g h1).trans h3⟩
  ·rintro b (hb | rfl)
   ·exact Nat.lt_of_lt_of_le (h.dlt b hb) (Nat.le_max_left _ _)
   ·exact Nat.lt_of_lt_of_le (Nat.lt_succ_self _) (Nat.le_max_right _ _)
  ·intro b c2 e2 hb
   by_cases hbs : b = n
   ·subst hbs; rw [AH.get_new] at hb; cases hb
   ·rw [AH.get_new_ne hbs] at hb
    obtain ⟨hd, c2', el2, fz2, h1, h2, h3, h4, h5, h6⟩ := h.cells b c2 e2 hb
    have hlt := h.lt (b := b) (by rw [hb]; simp)
    refine ⟨.inl hd, c2', el2, fz2, ?_, ?_, ?_, ?_, ?_, h6⟩
    ·rw [hle.r b hd, push_lt hw hlt, h1]
    ·rw [hle.e b hd, hle.s b hd]; exact h2
    ·rw [hle.k b hd, h3]
    ·rw [hle.s b hd]; exact h4
    ·rw [hle.s b hd]; exact h5.mono hle
  ·intro b es hb
   by_cases hbs : b = n
   ·subst hbs
    rw [AH.get_new] at hb
    cases hb
    exact ⟨.inr rfl, #[], cl, by simpa using push_at hw, by simp [ERel]⟩
   ·rw [AH.get_new_ne hbs] at hb
    obtain ⟨hd, es', cl2, h1, h2⟩ := h.maps b es hb
    have hlt := h.lt (b := b) (by rw [hb]; simp)
    exact ⟨.inl hd, es', cl2, by rw [hle.r b hd, push_lt hw hlt, h1], h2.mono hle⟩
  ·intro b hb hbo
   rcases new_live hb with rfl | hb
   ·simpa using h.bl
   ·rw [hr b hb]; exact h.rw b hb hbo
  ·intro b b' hb hb' hbo hbo' he
   rcases new_live hb with hbn | hb <;> rcases new_live hb' with hbn' | hb'
   ·exact hbn.trans hbn'.symm
   ·rw [hr b' hb', hbn] at he; simp at he; have := h.lt hb'; omega
   ·rw [hr b hb, hbn'] at he; simp at he; have := h.lt hb; omega
   ·rw [hr b hb, hr b' hb'] at he; exact h.inj b b' hb hb' hbo hbo' he
  ·intro b hb hbo
   rcases new_live hb with rfl | hb
   ·omega
   ·rw [hr b hb]; exact h.lo b hb hbo
  ·exact h.old.trans ⟨ho, ht, hu, by omega, fun k hk => push_lt hw (by have := h.bl; omega)⟩
 ·intro b hb
  rcases new_live hb with rfl | hb
  ·right; simp
  ·left; exact ⟨b, hb, (hr b hb).symm⟩
structure OneBlock (r : Nat) (ob : Obj) (w w' : World) : Prop where
 os : w'.os = w.os
 tape : w'.tape = w.tape
 output : w'.output = w.output
 size : w'.heap.size = w.heap.size
 this : w'.heap[r]? = some ob
 other : ∀ k, k ≠ r → w'.heap[k]? = w.heap[k]?
theorem Step.put {b : Nat} {o : AObj} {ob : Obj} (h : Sim ng ro base w0 m A w) (hb : A.get b ≠ .dead) (hro : ro ≤ b) (hw : OneBlock (m.r b) ob w w')
 (hc : ∀ c e, o = .cells c e → ∃ c' el fz, ob = .cells c' el fz ∧ ETag (m.e b) e el fz (m.s b) c'.size ∧ m.k b = c'.size ∧ m.s b + c.length ≤ c'.size ∧ CRel m (m.s b) c c' ∧ FreeRow fz c'.size)
 (hm : ∀ es, o = .map es → ∃ es' cl, ob = .map es' cl ∧ ERel m es es'.toList) :
 Step ng ro base w0 m A w m (A.put b o) w' := by
 have hlive : ∀ x, (A.put b o).get x ≠ .dead → A.get x ≠ .dead := fun x hx => by
  by_cases hxb : x = b
  ·subst hxb; exact hb
  ·rwa [AH.get_put_ne hxb] at hx
 have hne : ∀ x, x ≠ b → A.get x ≠ .dead → m.r x ≠ m.r b := fun x hxb hx he => by
  rcases Nat.lt_or_ge x ro with hlt | hge
  ·have := h.lo x hx hlt; have := h.rw b hb hro; omega
  ·exact hxb (h.inj x b hx hb hge hro he)
 refine ⟨.refl m, ?_, Nat.le_refl _, by rw [hw.size]; exact Nat.le_refl _, fun r _ hn => hw.other r (fun e => hn b hb e.symm), fun x hx => .inl ⟨x, hlive x hx, rfl⟩⟩
 refine ⟨h.glob, h.dlt, ?_, ?_, fun x hx => h.rw x (hlive x hx), fun x y hx hy => h.inj x y (hlive x hx) (hlive y hy), fun x hx => h.lo x (hlive x hx), by rw [hw.size]; exact h.bl, h.rl, ?_⟩
 ·intro x c e hx
  by_cases hxb : x = b
  ·subst hxb
   rw [AH.get_put] at hx
   obtain ⟨c', el, fz, rfl, h1, h2, h3, h4, h5⟩ := hc c e hx
   exact ⟨h.dom_of hb, c', el, fz, hw.this, h1, h2, h3, h4, fun _ => h5⟩
  ·rw [AH.get_put_ne hxb] at hx
   obtain ⟨h1, c', el, fz, h2, h3⟩ := h.cells x c e hx
   exact ⟨h1, c', el, fz, (hw.other _ (hne x hxb (by rw [hx]; simp))).trans h2, h3⟩
 ·intro x es hx
  by_cases hxb : x = b
  ·subst hxb
   rw [AH.get_put] at hx
   obtain ⟨es', cl, rfl, h1⟩ := hm es hx
   exact ⟨h.dom_of hb, es', cl, hw.this, h1⟩
  ·rw [AH.get_put_ne hxb] at hx
   obtain ⟨h1, es', cl, h2, h3⟩ := h.maps x es hx
   exact ⟨h1, es', cl, (hw.other _ (hne x hxb (by rw [hx]; simp))).trans h2, h3⟩
 ·exact h.old.trans ⟨hw.os, hw.tape, hw.output, by rw [hw.size]; exact Nat.le_refl _, fun k hk => hw.other k (by have := h.rw b hb hro; omega)⟩
theorem Step.take {b : Nat} {c : List Value} {e me s : Nat} {c' : Array Value} {el : TypeId} {fz : Nat × Nat} (h : Sim ng ro base w0 m A w) (hb : A.get b ≠ .dead) (hro : ro ≤ b)
 (hw : OneBlock (m.r b) (.cells c' el fz) w w') (hl : s + c.length ≤ c'.size) (hc : CRel m s c c') (hf : FreeRow fz c'.size) (he : ETag me e el fz s c'.size) :
 Step ng ro base w0 m A w (m.add A.size (m.r b) s c'.size me) ((A.put b .dead).new (.cells c e)) w' := by
 have hle := Emb.add_le (r := m.r b) (s := s) (k := c'.size) (e := me) h.fresh
 have hbs : b < A.size := h.live_lt hb
 have hlive : ∀ x, ((A.put b .dead).new (.cells c e)).get x ≠ .dead → x = A.size ∨ (x ≠ b ∧ x ≠ A.size ∧ A.get x ≠ .dead) := fun x hx => by
  by_cases hxs : x = A.size
  ·exact .inl hxs
  ·rw [show ((A.put b .dead).new (.cells c e)).get x = (A.put b .dead).get x from if_neg hxs] at hx
   by_cases hxb : x = b
   ·subst hxb; rw [AH.get_put] at hx; exact absurd rfl hx
   ·rw [AH.get_put_ne hxb] at hx; exact .inr ⟨hxb, hxs, hx⟩
 have hget : ∀ x, x ≠ b → x ≠ A.size → ((A.put b .dead).new (.cells c e)).get x = A.get x := fun x hxb hxs => by
  rw [show ((A.put b .dead).new (.cells c e)).get x = (A.put b .dead).get x from if_neg hxs, AH.get_put_ne hxb]
 have hnew : ((A.put b .dead).new (.cells c e)).get A.size = .cells c e := if_pos rfl
 have hgb : ((A.put b .dead).new (.cells c e)).get b = .dead := by
  rw [show ((A.put b .dead).new (.cells c e)).get b = (A.put b .dead).get b from if_neg (by show b ≠ A.size; omega), AH.get_put]
 have hne : ∀ x, x ≠ b → A.get x ≠ .dead → m.r x ≠ m.r b := fun x hxb hx he => by
  rcases Nat.lt_or_ge x ro with hlt | hge
  ·have := h.lo x hx hlt; have := h.rw b hb hro; omega
  ·exact hxb (h.inj x b hx hb hge hro he)
 have hr : ∀ x, A.get x ≠ .dead → (m.add A.size (m.r b) s c'.size me).r x = m.r x := fun x hx => hle.r x (h.dom_of hx)
 refine ⟨hle, ?_, by simp [AH.new, AH.put], by rw [hw.size]; exact Nat.le_refl _, fun r _ hn => hw.other r (fun e => hn b hb e.symm), ?_⟩
 ·refine ⟨fun g hg => ?_, ?_, ?_, ?_, ?_, ?_, ?_, by rw [hw.size]; exact h.bl, by have := h.rl; simp [AH.new, AH.put]; omega, ?_⟩
  ·obtain ⟨h1, h2, h3⟩ := h.glob g hg
   exact ⟨.inl h1, (hle.r g h1).trans h2, (hle.s g h1).trans h3⟩
  ·rintro x (hx | rfl)
   ·have := h.dlt x hx; simp [AH.new, AH.put]; omega
   ·simp [AH.new, AH.put]
  ·intro x c2 e2 hx
   rcases hlive x (by rw [hx]; simp) with rfl | ⟨hxb, hxs, hxl⟩
   ·rw [hnew] at hx
    cases hx
    exact ⟨.inr rfl, c', el, fz, by simpa using hw.this, by simpa using he, by simp, by simpa using hl, by simpa using hc.mono hle, fun _ => hf⟩
   ·rw [hget x hxb hxs] at hx
    obtain ⟨hd, c2', el2, fz2, h1, h2, h3, h4, h5, h6⟩ := h.cells x c2 e2 hx
    refine ⟨.inl hd, c2', el2, fz2, ?_, ?_, ?_, ?_, ?_, h6⟩
    ·rw [hle.r x hd, hw.other _ (hne x hxb hxl), h1]
    ·rw [hle.e x hd, hle.s x hd]; exact h2
    ·rw [hle.k x hd, h3]
    ·rw [hle.s x hd]; exact h4
    ·rw [hle.s x hd]; exact h5.mono hle
  ·intro x es hx
   rcases hlive x (by rw [hx]; simp) with rfl | ⟨hxb, hxs, hxl⟩
   ·rw [hnew] at hx; cases hx
   ·rw [hget x hxb hxs] at hx
    obtain ⟨hd, es', cl, h1, h2⟩ := h.maps x es hx
    exact ⟨.inl hd, es', cl, by rw [hle.r x hd, hw.other _ (hne x hxb hxl), h1], h2.mono hle⟩
  ·intro x hx hxo
   rcases hlive x hx with rfl | ⟨hxb, hxs, hxl⟩
   ·simpa using h.rw b hb hro
   ·rw [hr x hxl]; exact h.rw x hxl hxo
  ·intro x y hx hy hxo hyo he
   rcases hlive x hx with rfl | ⟨hxb, hxs, hxl⟩ <;> rcases hlive y hy with rfl | ⟨hyb, hys, hyl⟩
   ·rfl
   ·rw [hr y hyl] at he; simp at he; exact absurd he.symm (hne y hyb hyl)
   ·rw [hr x hxl] at he; simp at he; exact absurd he (hne x hxb hxl)
   ·rw [hr x hxl, hr y hyl] at he; exact h.inj x y hxl hyl hxo hyo he
  ·intro x hx hxo
   rcases hlive x hx with rfl | ⟨hxb, hxs, hxl⟩
   ·have := h.rl; omega
   ·rw [hr x hxl]; exact h.lo x hxl hxo
  ·exact h.old.trans ⟨hw.os, hw.tape, hw.output, by rw [hw.size]; exact Nat.le_refl _, fun k hk => hw.other k (by have := h.rw b hb hro; omega)⟩
 ·intro x hx
  rcases hlive x hx with rfl | ⟨hxb, hxs, hxl⟩
  ·left; exact ⟨b, hb, by simp⟩
  ·left; exact ⟨x, hxl, (hr x hxl).symm⟩
end
end Go.AM
namespace Go.AM
open Go Go.RowKit
def EnvRel (m : Emb) (e : Env) (tmps : Array Value) : Prop := ∀ t, VRel m (e t) (tmps.getD t undef)
theorem EnvRel.mono {m m' : Emb} (hm : m.Le m') {e : Env} {tmps : Array Value} (h : EnvRel m e tmps) : EnvRel m' e tmps := fun t => (h t).mono hm
theorem EnvRel.put {m : Emb} {e : Env} {a : Act} {d : Option Nat} {v v' : Value} (h : EnvRel m e a.tmps) (hv : VRel m v v') (hd : ∀ x, d = some x → x < a.tmps.size) : EnvRel m (e.put d v) (a.put d v').tmps := by
 intro t
 cases d with
 | none => simpa [Env.put, Act.put] using h t
 | some x =>
   simp only [Env.put, Act.put, Option.some.injEq]
   by_cases hx : x = t
   ·subst hx
    have := hd x rfl
    simpa [Array.getD_eq_getD_getElem?, Array.getElem?_setIfInBounds, this] using hv
   ·rw [if_neg hx]
    have := h t
    simpa [Array.getD_eq_getD_getElem?, Array.getElem?_setIfInBounds, hx] using this
section
variable {P : Program} {ng ro base : Nat} {w0 : World} {m : Emb} {A : AH} {w : World} {e : Env} {a : Act}
theorem EnvRel.eval (h : EnvRel m e a.tmps) (hS : Sim ng ro base w0 m A w) {x : Operand} (hx : opdOk ng x = true) : VRel m (e.eval x) (a.eval x) := by
 cases x with
 | tmp t => exact h t
 | const v => exact VRel.ground1 m hx
 | global g =>
   obtain ⟨h1, h2, h3⟩ := hS.glob g (by simpa [opdOk] using hx)
   have := VRel.ptr (m := m) g 0 h1
   simpa [Env.eval, Act.eval, h2, h3] using this
 | func f => exact .func _ _ _ _ _ .nil .nil
theorem run_und {t : TypeId} {d : TypeDesc} (h : P.underlying t = some d) (w : World) : (underlying t).run P w = .ok d w := by simp [underlying, h]
def Kind.fits : Kind → TypeDesc → Prop
 | .int q, d => d = .int q
 | .str, d => d = .string
 | .bool, d => d = .bool
 | .ptr, d => ∃ x, d = .pointer x
 | .slice, d => ∃ x, d = .slice x
 | .map, d => ∃ x y, d = .map x y
 | .func, d => ∃ x y z, d = .func x y z
 | .iface, d => ∃ x, d = .interface x
 | .struct, d => ∃ x, d = .struct x
 | .other, _ => True
theorem tKind_und {t : TypeId} {k : Kind} (h : tKind P t = some k) : ∃ d, P.underlying t = some d ∧ k.fits d := by
 unfold tKind at h
 cases hu : P.underlying t with
 | none => rw [hu] at h; cases h
 | some d =>
   rw [hu] at h
   refine ⟨d, rfl, ?_⟩
   cases d <;> simp at h <;> subst h <;> simp [Kind.fits]
theorem tKind_str {t : TypeId} (h : tKind P t = some .str) : P.underlying t = some .string := by obtain ⟨d, h1, rfl⟩ := tKind_und h; exact h1
theorem tKind_int {t : TypeId} {k : IntKind} (h : tKind P t = some (.int k)) : P.underlying t = some (.int k) := by obtain ⟨d, h1, rfl⟩ := tKind_und h; exact h1
theorem tKind_bool {t : TypeId} (h : tKind P t = some .bool) : P.underlying t = some .bool := by obtain ⟨d, h1, rfl⟩ := tKind_und h; exact h1
theorem tKind_slice {t : TypeId} (h : tKind P t = some .slice) : ∃ x, P.underlying t = some (.slice x) := by obtain ⟨d, h1, x, rfl⟩ := tKind_und h; exact ⟨x, h1⟩
theorem tKind_ptr {t : TypeId} (h : tKind P t = some .ptr) : ∃ x, P.underlying t = some (.pointer x) := by obtain ⟨d, h1, x, rfl⟩ := tKind_und h; exact ⟨x, h1⟩
theorem tKind_map {t : TypeId} (h : tKind P t = some .map) : ∃ x y, P.underlying t = some (.map x y) := by obtain ⟨d, h1, x, y, rfl⟩ := tKind_und h; exact ⟨x, y, h1⟩
theorem tKind_func {t : TypeId} (h : tKind P t = some .func) : ∃ x y z, P.underlying t = some (.func x y z) := by obtain ⟨d, h1, x, y, z, rfl⟩ := tKind_und h; exact ⟨x, y, z, h1⟩
theorem tKind_iface {t : TypeId} (h : tKind P t = some .iface) : ∃ x, P.underlying t = some (.interface x) := by obtain ⟨d, h1, x, rfl⟩ := tKind_und h; exact ⟨x, h1⟩
theorem tKind_struct {t : TypeId} (h : tKind P t = some .struct) : ∃ x, P.underlying t = some (.struct x) := by obtain ⟨d, h1, x, rfl⟩ := tKind_und h; exact ⟨x, h1⟩
theorem run_size {t : TypeId} {n : Nat} (h : tSize P t = some n) (w : World) : (sizeOf t).run P w = .ok n w := by
 unfold tSize at h
 cases hi : P.info? t with
 | none => rw [hi] at h; cases h
 | some i => rw [hi] at h; cases h; simp [sizeOf, typeInfo, hi]
theorem run_zero {t : TypeId} {z : Value} (h : tZero P t = some z) (w : World) : (zeroValue t).run P w = .ok z w ∧ ground z = true := by
 unfold tZero at h
 cases hi : P.info? t with
 | none => rw [hi] at h; cases h
 | some i =>
   rw [hi] at h
   simp only [Option.bind_some] at h
   cases hz : i.zero with
   | none => rw [hz] at h; cases h
   | some z' =>
     rw [hz] at h
     simp only at h
     split at h
     ·cases h; exact ⟨by simp [zeroValue, typeInfo, hi, hz], ‹_›⟩
     ·cases h
theorem run_agg {t : TypeId} {b : Bool} (h : tAgg P t = some b) (w : World) : (isAgg t).run P w = .ok b w := by
 unfold tAgg at h
 cases hu : P.underlying t with
 | none => rw [hu] at h; cases h
 | some d =>
   rw [hu] at h
   cases d <;> simp at h <;> subst h <;> simp [isAgg, run_und hu]
theorem tElem_und {t el : TypeId} (h : tElem P t = some el) : P.underlying t = some (.slice el) := by
 unfold tElem at h
 split at h
 ·cases h; assumption
 ·cases h
theorem tElemSize_z {t : TypeId} {n : Nat} (h : tElemSize P t = some n) : ∃ el i z, tElem P t = some el ∧ P.underlying t = some (.slice el) ∧ P.info? el = some i ∧ i.size = n ∧ i.bytes ≤ 4096 ∧
 (tZero P el).bind acells = some z ∧ z.length = n := by
 unfold tElemSize at h
 split at h
 ·rename_i el he
  split at h
  ·rename_i i z hi hz
   split at h
   ·rename_i hle; cases h; exact ⟨el, i, z, he, tElem_und he, hi, rfl, hle.1, hz, hle.2.1⟩
   ·cases h
  ·cases h
 ·cases h
theorem tElemSize_lt {t : TypeId} {n : Nat} (h : tElemSize P t = some n) : n < TAG := by
 unfold tElemSize at h
 split at h
 ·split at h
  ·split at h
   ·rename_i hle; cases h; have := hle.2.2; unfold TAG; omega
   ·cases h
  ·cases h
 ·cases h
theorem tElemSize_und {t : TypeId} {n : Nat} (h : tElemSize P t = some n) : ∃ el i, tElem P t = some el ∧ P.underlying t = some (.slice el) ∧ P.info? el = some i ∧ i.size = n ∧ i.bytes ≤ 4096 := by
 obtain ⟨el, i, _, h1, h2, h3, h4, h5, _⟩ := tElemSize_z h
 exact ⟨el, i, h1, h2, h3, h4, h5⟩
theorem run_sizeI {t : TypeId} {i : TypeInfo} (h : P.info? t = some i) (w : World) : (sizeOf t).run P w = .ok i.size w := by simp [sizeOf, typeInfo, h]
theorem run_infoI {t : TypeId} {i : TypeInfo} (h : P.info? t = some i) (w : World) : (typeInfo t).run P w = .ok i w := by simp [typeInfo, h]
theorem tArray_und {t : TypeId} {n : Nat} {el : TypeId} {s : Nat} (h : tArray P t = some (n, el, s)) : P.underlying t = some (.array n el) ∧ tSize P el = some s := by
 unfold tArray at h
 split at h
 ·rename_i n' el' hu
  cases hs : tSize P el' with
  | none => rw [hs] at h; cases h
  | some s' => rw [hs] at h; cases h; exact ⟨hu, hs⟩
 ·cases h
theorem tField_und {t : TypeId} {f off : Nat} {ft : TypeId} (h : tField P t f = some (off, ft)) : ∃ fs x, P.underlying t = some (.struct fs) ∧ fs[f]? = some x ∧ x.offset = off ∧ x.type = ft ∧ ∃ n, tSize P ft = some n ∧ n ≠ 0 := by
 unfold tField at h
 split at h
 ·rename_i fs hu
  split at h
  ·rename_i x hx
   split at h
   ·cases h
   ·rename_i hn
    cases h
    refine ⟨fs, x, hu, hx, rfl, rfl, ?_⟩
    cases hs : tSize P x.type with
    | none => simp [hs] at hn
    | some n => exact ⟨n, rfl, by simpa [hs] using hn⟩
  ·cases h
 ·cases h
theorem ptr_add {b o n : Nat} : (⟨b, o, none⟩ : Addr).add n = ⟨b, o + n, none⟩ := by
 unfold Addr.add
 split
 ·rename_i h; subst h; rfl
 ·rfl
theorem VRel.ptr_add {a a' : Addr} (h : VRel m (.pointer (some a)) (.pointer (some a'))) (n : Nat) : VRel m (.pointer (some (a.add n))) (.pointer (some (a'.add n))) := by
 cases h with
 | ptr b o h => rw [AM.ptr_add, AM.ptr_add, Nat.add_assoc]; exact .ptr b (o + n) h
theorem VRel.int_l {k : IntKind} {n : Int} {v : Value} (h : VRel m (.int k n) v) : v = .int k n := by cases h; rfl
theorem VRel.str_l {s : ByteArray} {v : Value} (h : VRel m (.string s) v) : v = .string s := by cases h; rfl
theorem VRel.bool_l {b : Bool} {v : Value} (h : VRel m (.bool b) v) : v = .bool b := by cases h; rfl
theorem eqFields_ok (w : World) {xs ys xs' ys' : Array Value} (hx : VRels m xs.toList xs'.toList) (hy : VRels m ys.toList ys'.toList) :
 ∀ (l : List Field) (b : Bool), aEqFields P xs.toList ys.toList l = some b → (Op.eqFields 9999 xs' ys' l).run P w = .ok b w := by
 have at_ : ∀ {zs zs' : Array Value} (_ : VRels m zs.toList zs'.toList) (i : Nat) (v : Value), zs.toList[i]? = some v → ∃ v', zs'[i]? = some v' ∧ VRel m v v' := fun h i v hv => by
  simpa using h.get hv
 intro l
 induction l with
 | nil => intro b h; cases h; rfl
 | cons f fs ih =>
   intro b h
   unfold aEqFields at h
   split at h
   ·cases h
   ·rename_i hne
    have hne' : (f.name ≠ "_") := hne
    have part_ok : ∀ (t : TypeId) (zs : Array Value) (o : Nat) (v : Value) (d : TypeDesc), P.underlying t = some d → (∀ x, d ≠ .struct x) → (∀ x y, d ≠ .array x y) → zs[o]? = some v → (part t zs o).run P w = .ok v w := by
     intro t zs o v d hd h1 h2 hv
     have : (isAgg t).run P w = .ok false w := by
      cases d <;> first | exact absurd rfl (h1 _) | exact absurd rfl (h2 _ _) | simp [isAgg, run_und hd]
     simp [part, this, hv]
    split at h
    ·rename_i q k a k' c hk hxa hya
     obtain ⟨u, hu, hu'⟩ := at_ hx _ _ hxa
     obtain ⟨v, hv, hv'⟩ := at_ hy _ _ hya
     obtain rfl := hu'.int_l
     obtain rfl := hv'.int_l
     have hd := tKind_int hk
     split at h
     ·rename_i hkk
      subst hkk
      simp only [Op.eqFields, hne', if_true, ne_eq, not_false_eq_true, Sem.run_bind, part_ok _ _ _ _ _ hd (by simp) (by simp) hu, part_ok _ _ _ _ _ hd (by simp) (by simp) hv, Result.andThen_ok,
       run_equalIn_int (P := P) w 9998 f.type k q a c hd]
      split at h
      ·rename_i he; subst he; simp [ih _ h]
      ·rename_i he; cases h; simp [he]
     ·cases h
    ·rename_i a c hk hxa hya
     obtain ⟨u, hu, hu'⟩ := at_ hx _ _ hxa
     obtain ⟨v, hv, hv'⟩ := at_ hy _ _ hya
     obtain rfl := hu'.str_l
     obtain rfl := hv'.str_l
     have hd := tKind_str hk
     simp only [Op.eqFields, hne', if_true, ne_eq, not_false_eq_true, Sem.run_bind, part_ok _ _ _ _ _ hd (by simp) (by simp) hu, part_ok _ _ _ _ _ hd (by simp) (by simp) hv, Result.andThen_ok,
      run_equalIn_string (P := P) w 9998 f.type a c hd]
     split at h
     ·rename_i he; simp [he, ih _ h]
     ·rename_i he; cases h; simp [he]
    ·rename_i a c hk hxa hya
     obtain ⟨u, hu, hu'⟩ := at_ hx _ _ hxa
     obtain ⟨v, hv, hv'⟩ := at_ hy _ _ hya
     obtain rfl := hu'.bool_l
     obtain rfl := hv'.bool_l
     have hd := tKind_bool hk
     simp only [Op.eqFields, hne', if_true, ne_eq, not_false_eq_true, Sem.run_bind, part_ok _ _ _ _ _ hd (by simp) (by simp) hu, part_ok _ _ _ _ _ hd (by simp) (by simp) hv, Result.andThen_ok,
      run_equalIn_bool' (P := P) w 9998 f.type a c hd]
     split at h
     ·rename_i he; subst he; simp [ih _ h]
     ·rename_i he; cases h; simp [he]
    ·cases h
theorem aEq_ok (w : World) {op : BinOp} (hop : op = .eql ∨ op = .neq) {t : TypeId} {x y : Operand} {u v u' v' : Value} {b : Bool} (hu : VRel m u u') (hv : VRel m v v') (h : aEq P t u v = some b) :
 (eqGuard op t x y u' v').run P w = .ok () w ∧ (Op.equal t u' v').run P w = .ok b w := by
 suffices H : (eqGuard op t x y u' v').run P w = .ok () w ∧ (∀ d, d = 9999 → (Op.equalIn (d + 1) t u' v').run P w = .ok b w) from ⟨H.1, H.2 9999 rfl⟩
 have hg0 : ∀ {u' v' : Value}, (∀ xs ys, ¬ (u' = .agg xs ∧ v' = .agg ys)) → ¬ (u' = .nilIface ∧ v' = .nilIface) → (eqGuard op t x y u' v').run P w = .ok () w := by
  intro u' v' h1 h2
  unfold eqGuard
  rcases hop with rfl | rfl <;>
   (simp only [Bool.not_true, Bool.false_eq_true, if_false]
    split
    ·exact absurd ⟨rfl, rfl⟩ h2
    ·exact absurd ⟨rfl, rfl⟩ (h1 _ _)
    ·rfl)
 unfold aEq at h
 split at h
 ·rename_i a c hk
  cases h
  obtain rfl := hu.bool_l
  obtain rfl := hv.bool_l
  exact ⟨hg0 (by simp) (by simp), fun d _ => by simp [Op.equalIn, run_und (tKind_bool hk)]⟩
 ·rename_i c hk
  cases h
  obtain ⟨d, hd⟩ := tKind_ptr hk
  cases hu
  refine ⟨hg0 (by simp) (by simp), fun d _ => ?_⟩
  cases hv <;> simp [Op.equalIn, run_und hd]
 ·rename_i c hk
  cases h
  obtain ⟨d, hd⟩ := tKind_ptr hk
  cases hv
  refine ⟨hg0 (by simp) (by simp), fun d _ => ?_⟩
  cases hu <;> simp [Op.equalIn, run_und hd]
 ·rename_i c hk
  cases h
  obtain ⟨d, hd⟩ := tKind_slice hk
  cases hu
  refine ⟨hg0 (by simp) (by simp), fun d _ => ?_⟩
  cases hv <;> simp [Op.equalIn, run_und hd]
 ·rename_i c hk
  cases h
  obtain ⟨d, hd⟩ := tKind_slice hk
  cases hv
  refine ⟨hg0 (by simp) (by simp), fun d _ => ?_⟩
  cases hu <;> simp [Op.equalIn, run_und hd]
 ·rename_i c hk
  cases h
  obtain ⟨d, d', hd⟩ := tKind_map hk
  cases hu
  refine ⟨hg0 (by simp) (by simp), fun d _ => ?_⟩
  cases hv <;> simp [Op.equalIn, run_und hd]
 ·rename_i c hk
  cases h
  obtain ⟨d, d', hd⟩ := tKind_map hk
  cases hv
  refine ⟨hg0 (by simp) (by simp), fun d _ => ?_⟩
  cases hu <;> simp [Op.equalIn, run_und hd]
 ·rename_i hk
  cases h
  obtain ⟨d, d', d'', hd⟩ := tKind_func hk
  cases hu; cases hv
  exact ⟨hg0 (by simp) (by simp), fun d _ => by simp [Op.equalIn, run_und hd]⟩
 ·rename_i hk
  cases h
  obtain ⟨d, d', d'', hd⟩ := tKind_func hk
  cases hu; cases hv
  exact ⟨hg0 (by simp) (by simp), fun d _ => by simp [Op.equalIn, run_und hd]⟩
 ·rename_i hk
  cases h
  obtain ⟨d, d', d'', hd⟩ := tKind_func hk
  cases hu; cases hv
  exact ⟨hg0 (by simp) (by simp), fun d _ => by simp [Op.equalIn, run_und hd]⟩
 ·rename_i hk
  cases h
  obtain ⟨d, hd⟩ := tKind_iface hk
  cases hu; cases hv
  exact ⟨hg0 (by simp) (by simp), fun d _ => by simp [Op.equalIn, run_und hd]⟩
 ·rename_i hk
  cases h
  obtain ⟨d, hd⟩ := tKind_iface hk
  cases hu; cases hv
  exact ⟨hg0 (by simp) (by simp), fun d _ => by simp [Op.equalIn, run_und hd]⟩
 ·rename_i xs ys hk
  cases hu with
  | agg _ xs' hx _ =>
  cases hv with
  | agg _ ys' hy _ =>
  obtain ⟨fs, hd⟩ := tKind_struct hk
  rw [hd] at h
  simp only at h
  split at h
  ·cases h
  ·rename_i hst
   obtain ⟨hst, hg⟩ : P.stoodInHeld t = false ∧ P.eqGuardType P.depth t = false := by
    rw [Bool.or_eq_true, not_or] at hst
    exact ⟨by simpa using hst.1, by simpa using hst.2⟩
   have hfo : P.fieldsOf t = fs := by simp [Program.fieldsOf, hd]
   refine ⟨run_eqGuard_agg w op t x y xs' ys' hg, ?_⟩
   rintro d rfl
   rw [run_equalIn_struct (P := P) w 9999 t xs' ys' (by rw [hfo]; exact hd) hst, hfo]
   exact eqFields_ok w hx hy _ _ h
 ·cases h
theorem aInt_ok (w : World) {op : BinOp} {k : IntKind} {x y : Int} {r : Value} (h : aInt op k x y = some r) (h1 : op ≠ .shl) (h2 : op ≠ .shr) (t : TypeId) :
 (binOp op t (.int k x) (.int k y)).run P w = .ok r w ∧ VRel m r r := by
 unfold aInt at h
 cases op <;> simp only [Option.some.injEq] at h <;> first
  | (cases h; done)
  | exact absurd rfl h1
  | exact absurd rfl h2
  | (subst h; exact ⟨by simp [binOp, Op.intArith, Op.intCmp, Op.intBits], by constructor⟩)
  | (split at h
     ·cases h
     ·rename_i hz; cases h; exact ⟨by simp [binOp, Op.intDiv, hz], by constructor⟩)
theorem aStr_ok (w : World) {op : BinOp} {x y : ByteArray} {r : Value} (h : aStr op x y = some r) (t : TypeId) :
 (binOp op t (.string x) (.string y)).run P w = .ok r w ∧ VRel m r r := by
 unfold aStr at h
 cases op <;> simp only [Option.some.injEq] at h <;> first
  | (cases h; done)
  | (subst h; exact ⟨by simp [binOp, Op.stringOp], by constructor⟩)
  | (split at h
     ·rename_i hz
      cases h
      refine ⟨?_, by constructor⟩
      simp only [binOp, Op.stringOp, Sem.run_ite]
      rw [if_neg (by simp only [IntKind.max, IntKind.bits, IntKind.signed, if_true]; unfold BIG at hz; omega)]
      rfl
     ·cases h)
theorem eqGuard_int (w : World) (op : BinOp) (t : TypeId) (x y : Operand) (k k' : IntKind) (a b : Int) : (eqGuard op t x y (.int k a) (.int k' b)).run P w = .ok () w := by
 unfold eqGuard
 cases op <;> rfl
theorem eqGuard_str (w : World) (op : BinOp) (t : TypeId) (x y : Operand) (a b : ByteArray) : (eqGuard op t x y (.string a) (.string b)).run P w = .ok () w := by
 unfold eqGuard
 cases op <;> rfl
theorem binOp_eql_else {t : TypeId} {u v : Value} (h1 : ∀ k a k' b, ¬ (u = .int k a ∧ v = .int k' b)) (h2 : ∀ a b, ¬ (u = .string a ∧ v = .string b))
 (h3 : ∀ k a k' b, ¬ (u = .float k a ∧ v = .float k' b)) (h4 : ∀ k a b k' c d, ¬ (u = .complex k a b ∧ v = .complex k' c d)) :
 binOp .eql t u v = (do pure (.bool (← Op.equal t u v))) ∧ binOp .neq t u v = (do pure (.bool (!(← Op.equal t u v)))) := by
 cases u <;> cases v <;> first
  | exact ⟨rfl, rfl⟩
  | exact absurd ⟨rfl, rfl⟩ (h1 _ _ _ _)
  | exact absurd ⟨rfl, rfl⟩ (h2 _ _)
  | exact absurd ⟨rfl, rfl⟩ (h3 _ _ _ _)
  | exact absurd ⟨rfl, rfl⟩ (h4 _ _ _ _ _ _)
theorem binOp_ok (w : World) {op : BinOp} {t : TypeId} {x y : Operand} {u v u' v' r : Value} (hu : VRel m u u') (hv : VRel m v v') (h : aBin P op t u v = some r) :
 ∃ r', (do eqGuard op t x y u' v'; binOp op t u' v' : Sem Value).run P w = .ok r' w ∧ VRel m r r' := by
 unfold aBin at h
 split at h
 ·rename_i k a k' c
  obtain rfl := hu.int_l
  obtain rfl := hv.int_l
  rw [Sem.run_bind, eqGuard_int, Result.andThen_ok]
  split at h
  ·split at h
   ·cases h
   ·rename_i hz; cases h; exact ⟨_, by simp [binOp, Op.shift, hz]; rfl, by constructor⟩
  ·split at h
   ·cases h
   ·rename_i hz; cases h; exact ⟨_, by simp [binOp, Op.shift, hz]; rfl, by constructor⟩
  ·rename_i h1 h2
   split at h
   ·rename_i hk; subst hk
    obtain ⟨h3, h4⟩ := aInt_ok (P := P) (m := m) w h (fun e => h1 e) (fun e => h2 e) t
    exact ⟨_, h3, h4⟩
   ·cases h
 ·rename_i a c
  obtain rfl := hu.str_l
  obtain rfl := hv.str_l
  rw [Sem.run_bind, eqGuard_str, Result.andThen_ok]
  obtain ⟨h3, h4⟩ := aStr_ok (P := P) (m := m) w h t
  exact ⟨_, h3, h4⟩
 ·rename_i hni hns
  have hne : binOp .eql t u' v' = (do pure (.bool (← Op.equal t u' v'))) ∧ binOp .neq t u' v' = (do pure (.bool (!(← Op.equal t u' v')))) := by
   refine binOp_eql_else ?_ ?_ ?_ ?_
   ·rintro k a k' b ⟨rfl, rfl⟩
    cases hu; cases hv; exact hni _ _ _ _ rfl rfl
   ·rintro a b ⟨rfl, rfl⟩
    cases hu; cases hv; exact hns _ _ rfl rfl
   ·rintro k a k' b ⟨rfl, rfl⟩
    cases hu
   ·rintro k a b k' c d ⟨rfl, rfl⟩
    cases hu
  split at h
  ·obtain ⟨b, hb, rfl⟩ := Option.map_eq_some_iff.1 h
   obtain ⟨h1, h2⟩ := aEq_ok (P := P) w (.inl rfl) (x := x) (y := y) hu hv hb
   exact ⟨.bool b, by rw [Sem.run_bind, h1, Result.andThen_ok, hne.1]; simp [h2], .bool b⟩
  ·obtain ⟨b, hb, rfl⟩ := Option.map_eq_some_iff.1 h
   obtain ⟨h1, h2⟩ := aEq_ok (P := P) w (.inr rfl) (x := x) (y := y) hu hv hb
   exact ⟨.bool (!b), by rw [Sem.run_bind, h1, Result.andThen_ok, hne.2]; simp [h2], .bool _⟩
  ·cases h
theorem binOpN_ok (w : World) {op : BinOp} {t : TypeId} {x y : Operand} {u v u' v' r : Value} (hu : VRel m u u') (hv : VRel m v v') (h : aBinN P op t (litNil x y) u v = some r) :
 ∃ r', (do eqGuard op t x y u' v'; binOp op t u' v' : Sem Value).run P w = .ok r' w ∧ VRel m r r' := by
 unfold aBinN at h
 split at h
 ·cases hu; cases hv
  split at h
  ·rename_i hl
   have hg : (eqGuard op t x y .nilIface .nilIface).run P w = .ok () w := by
    unfold eqGuard
    cases x <;> cases y <;> simp only [litNil, Bool.false_eq_true] at hl <;> (split <;> rfl)
   have hne : binOp .eql t .nilIface .nilIface = (do pure (.bool (← Op.equal t .nilIface .nilIface))) ∧ binOp .neq t .nilIface .nilIface = (do pure (.bool (!(← Op.equal t .nilIface .nilIface)))) := by
    refine binOp_eql_else ?_ ?_ ?_ ?_ <;> (intros; rintro ⟨h1, h2⟩; cases h1)
   have hq : ∀ {d : TypeId}, tKind P t = some .iface → (Op.equal t .nilIface .nilIface).run P w = .ok true w := by
    intro _ hk
    obtain ⟨d, hd⟩ := tKind_iface hk
    have : ∀ d, d = 9999 → (Op.equalIn (d + 1) t .nilIface .nilIface).run P w = .ok true w := fun d _ => by simp [Op.equalIn, run_und hd]
    exact this 9999 rfl
   unfold nilCmp at h
   split at h
   ·rename_i hk; cases h
    exact ⟨.bool true, by rw [Sem.run_bind, hg, Result.andThen_ok, hne.1]; simp [hq (d := 0) hk], .bool _⟩
   ·rename_i hk; cases h
    exact ⟨.bool false, by rw [Sem.run_bind, hg, Result.andThen_ok, hne.2]; simp [hq (d := 0) hk], .bool _⟩
   ·cases h
  ·cases h
 ·exact binOp_ok w hu hv h
end
end Go.AM
namespace Go.AM
open Go Go.RowKit
section
variable {P : Program} {ng ro base : Nat} {w0 : World} {m : Emb} {A : AH} {w : World}
theorem cell_row {w : World} {r o : Nat} {c' : Array Value} {el : TypeId} {fz : Nat × Nat} (h : w.heap[r]? = some (.cells c' el fz)) : w.cell? ⟨r, o, none⟩ = c'[o]? := by
 simp [World.cell?, h]
theorem frozen_row {w : World} {r o : Nat} {c' : Array Value} {el : TypeId} {fz : Nat × Nat} (h : w.heap[r]? = some (.cells c' el fz)) : w.frozen? ⟨r, o, none⟩ = (decide (fz.1 ≤ o) && decide (o < fz.2)) := by
 simp [World.frozen?, h]
theorem VRel.ptr_inv {a : Addr} {v : Value} (h : VRel m (.pointer (some a)) v) : ∃ b o, a = ⟨b, o, none⟩ ∧ v = .pointer (some ⟨m.r b, m.s b + o, none⟩) ∧ m.dom b := by
 cases h with | ptr b o hd => exact ⟨b, o, rfl, rfl, hd⟩
theorem cell_ok (hS : Sim ng ro base w0 m A w) {b o : Nat} {v : Value} (h : aCell A ⟨b, o, none⟩ = some v) :
 v.oneCell' = true ∧ ∃ v', w.cell? ⟨m.r b, m.s b + o, none⟩ = some v' ∧ VRel m v v' := by
 unfold aCell at h
 simp only at h
 split at h
 ·rename_i c e _ hc
  obtain ⟨_, c', el, fz, h1, _, _, _, h5, _⟩ := hS.cells b c e hc
  obtain ⟨h6, v', h7, h8⟩ := h5 o v h
  exact ⟨h6, v', by rw [cell_row h1]; exact h7, h8⟩
 ·cases h
theorem row_ok (hS : Sim ng ro base w0 m A w) {b o n : Nat} {cs : List Value} (h : aRow A ⟨b, o, none⟩ n = some cs) :
 cs.length = n ∧ ∃ cs', (∀ w1 : World, w1.heap = w.heap → (loadCells ⟨m.r b, m.s b + o, none⟩ n).run P w1 = .ok cs'.toArray w1) ∧ VRels m cs cs' ∧ ∀ v ∈ cs, v.oneCell' = true := by
 unfold aRow at h
 simp only at h
 split at h
 ·rename_i c e _ hc
  split at h
  ·rename_i hle
   cases h
   obtain ⟨_, c', el, fz, h1, _, _, h4, h5, _⟩ := hS.cells b c e hc
   have hlen : ((c.drop o).take n).length = n := by simp; omega
   have hlen' : ((c'.toList.drop (m.s b + o)).take n).length = n := by simp; omega
   refine ⟨hlen, (c'.toList.drop (m.s b + o)).take n, ?_, ?_, ?_⟩
   ·intro w1 hw1
    have := run_loadCells_list (P := P) w1 ⟨m.r b, m.s b + o, none⟩ ((c'.toList.drop (m.s b + o)).take n) (fun j v hj => by
     rw [ptr_add, cell_row (by rw [hw1]; exact h1)]
     rw [List.getElem?_take] at hj
     split at hj
     ·simpa using hj
     ·cases hj)
    rwa [hlen'] at this
   ·refine VRels.of_get (hlen.trans hlen'.symm) fun i v hv => ?_
    rw [List.getElem?_take] at hv
    split at hv
    ·rename_i hi
     rw [List.getElem?_drop] at hv
     obtain ⟨_, v', h7, h8⟩ := h5 (o + i) v hv
     refine ⟨v', ?_, h8⟩
     rw [List.getElem?_take, if_pos hi, List.getElem?_drop]
     simpa [Nat.add_assoc] using h7
    ·cases hv
   ·intro v hv
    obtain ⟨i, hi⟩ := List.getElem?_of_mem hv
    rw [List.getElem?_take] at hi
    split at hi
    ·rw [List.getElem?_drop] at hi; exact (h5 _ _ hi).1
    ·cases hi
  ·cases h
 ·cases h
theorem load_ok (hS : Sim ng ro base w0 m A w) {t : TypeId} {a : Addr} {v a' : Value} (ha : VRel m (.pointer (some a)) a') (h : aLoad P A t a = some v) :
 ∃ v', (Instr.loadAt t a').run P w = .ok v' w ∧ VRel m v v' := by
 obtain ⟨b, o, rfl, rfl, _⟩ := ha.ptr_inv
 unfold aLoad at h
 split at h
 ·rename_i hg
  split at h
  ·rename_i n hn
   obtain ⟨cs, hcs, rfl⟩ := Option.map_eq_some_iff.1 h
   obtain ⟨_, cs', h1, h2, h3⟩ := row_ok (P := P) hS hcs
   exact ⟨.agg cs'.toArray, by simp [Instr.loadAt, Instr.sureAddr, loadVar, run_agg hg, run_size hn, h1 w rfl], .agg _ _ (by simpa using h2) (by simpa using h3)⟩
  ·cases h
 ·rename_i hg
  obtain ⟨_, v', h1, h2⟩ := cell_ok hS h
  exact ⟨v', by simp [Instr.loadAt, Instr.sureAddr, loadVar, run_agg hg, h1], h2⟩
 ·cases h
def setArr (c : Array Value) (o : Nat) : List Value → Array Value
 | [] => c
 | v :: vs => setArr (c.setIfInBounds o v) (o + 1) vs
theorem setArr_size : ∀ (vs : List Value) (c : Array Value) (o : Nat), (setArr c o vs).size = c.size
 | [], _, _ => rfl
 | v :: vs, c, o => by rw [setArr, setArr_size vs]; simp
theorem setArr_get : ∀ (vs : List Value) (c : Array Value) (o i : Nat), o + vs.length ≤ c.size → (setArr c o vs)[i]? = if o ≤ i ∧ i < o + vs.length then vs[i - o]? else c[i]?
 | [], c, o, i, _ => by rw [if_neg (by simp only [List.length_nil]; omega)]; rfl
 | v :: vs, c, o, i, h => by
   simp only [List.length_cons] at h
   rw [setArr, setArr_get vs _ _ _ (by simp; omega)]
   by_cases h1 : o + 1 ≤ i ∧ i < o + 1 + vs.length
   ·rw [if_pos h1, if_pos (by simp; omega), show i - o = (i - (o + 1)) + 1 by omega]; rfl
   ·rw [if_neg h1]
    by_cases h2 : i = o
    ·subst h2
     have hlt : i < c.size := by omega
     rw [if_pos (by simp)]
     simp [hlt]
    ·rw [if_neg (by simp; omega)]
     simp [Ne.symm h2]
theorem setCells_length : ∀ (vs : List Value) (c : List Value) (o : Nat), (setCells c o vs).length = c.length
 | [], _, _ => rfl
 | v :: vs, c, o => by rw [setCells, setCells_length vs]; simp
theorem setCells_get : ∀ (vs : List Value) (c : List Value) (o i : Nat), o + vs.length ≤ c.length → (setCells c o vs)[i]? = if o ≤ i ∧ i < o + vs.length then vs[i - o]? else c[i]?
 | [], c, o, i, _ => by rw [if_neg (by simp only [List.length_nil]; omega)]; rfl
 | v :: vs, c, o, i, h => by
   simp only [List.length_cons] at h
   rw [setCells, setCells_get vs _ _ _ (by simp; omega)]
   by_cases h1 : o + 1 ≤ i ∧ i < o + 1 + vs.length
   ·rw [if_pos h1, if_pos (by simp; omega), show i - o = (i - (o + 1)) + 1 by omega]; rfl
   ·rw [if_neg h1]
    by_cases h2 : i = o
    ·subst h2
     have hlt : i < c.length := by omega
     rw [if_pos (by simp)]
     simp [hlt]
    ·rw [if_neg (by simp; omega)]
     rw [List.getElem?_set_ne (by omega)]
theorem heap_setCells : ∀ (vs : List Value) (w : World) (r o : Nat) (c : Array Value) (el : TypeId) (fz : Nat × Nat), w.heap[r]? = some (.cells c el fz) →
 OneBlock r (.cells (setArr c o vs) el fz) w (w.setCells r o vs)
 | [], w, r, o, c, el, fz, h => ⟨rfl, rfl, rfl, rfl, h, fun _ _ => rfl⟩
 | v :: vs, w, r, o, c, el, fz, h => by
   have h1 : (w.setCell ⟨r, o, none⟩ v).heap[r]? = some (.cells (c.setIfInBounds o v) el fz) := by
    simp [World.setCell, Array.getElem?_modify, h]
   obtain ⟨a1, a2, a3, a4, a5, a6⟩ := heap_setCells vs (w.setCell ⟨r, o, none⟩ v) r (o + 1) _ el fz h1
   refine ⟨a1, a2, a3, by simpa [World.setCells, World.setCell] using a4, a5, fun k hk => ?_⟩
   rw [World.setCells, a6 k hk]
   simp only [World.setCell, Array.getElem?_modify]
   rw [if_neg (by omega)]
theorem write_ok (hS : Sim ng ro base w0 m A w) {b o : Nat} {c vs vs' : List Value} {e : Nat} (hc : A.get b = .cells c e) (hro : ro ≤ b) (hl : o + vs.length ≤ c.length) (hv : VRels m vs vs')
 (h1 : ∀ v ∈ vs, v.oneCell' = true) :
 ∃ w', (storeCells ⟨m.r b, m.s b + o, none⟩ vs').run P w = .ok () w' ∧ Step ng ro base w0 m A w m (A.put b (.cells (setCells c o vs) e)) w' := by
 obtain ⟨hd, c', el, fz, g1, g2, g3, g4, g5, g6⟩ := hS.cells b c e hc
 have hlen := hv.length
 have h1' : ∀ v ∈ vs', v.oneCell' = true := by
  intro v' hv'
  obtain ⟨i, hi⟩ := List.getElem?_of_mem hv'
  obtain ⟨v, hvv⟩ : ∃ v, vs[i]? = some v := by
   have : i < vs.length := by
    rw [hlen]
    rcases Nat.lt_or_ge i vs'.length with h | h
    ·exact h
    ·rw [List.getElem?_eq_none h] at hi; cases hi
   exact ⟨vs[i], by simp [this]⟩
  obtain ⟨u, hu, hr⟩ := hv.get hvv
  rw [hi] at hu
  cases hu
  rw [hr.oneCell]
  exact h1 v (List.mem_of_getElem? hvv)
 have hrun := run_storeCells_cells (P := P) (m.r b) (m.s b + o) vs' 0 w (fun j hj => by
  rw [cell_row g1]; simp; omega) (fun j hj => by
  rw [frozen_row g1]
  have := g6 hro (m.s b + o + 0 + j) (by omega)
  simpa using this) h1'
 refine ⟨_, hrun, ?_⟩
 rw [Nat.add_zero]
 refine Step.put hS (by rw [hc]; simp) hro (heap_setCells vs' w (m.r b) (m.s b + o) c' el fz g1) ?_ (fun es h => by cases h)
 intro c2 e2 h2
 cases h2
 refine ⟨_, el, fz, rfl, by rw [setArr_size]; exact g2, by rw [g3, setArr_size], by rw [setArr_size, setCells_length]; exact g4, ?_, by rw [setArr_size]; exact g6 hro⟩
 intro i v hv2
 rw [setCells_get vs c o i hl] at hv2
 by_cases hin : o ≤ i ∧ i < o + vs.length
 ·rw [if_pos hin] at hv2
  refine ⟨h1 v (List.mem_of_getElem? hv2), ?_⟩
  obtain ⟨v', hv', hr⟩ := hv.get hv2
  refine ⟨v', ?_, hr⟩
  rw [setArr_get vs' c' _ _ (by omega), if_pos (by omega), show m.s b + i - (m.s b + o) = i - o by omega]
  exact hv'
 ·rw [if_neg hin] at hv2
  obtain ⟨k1, v', k2, k3⟩ := g5 i v hv2
  refine ⟨k1, v', ?_, k3⟩
  rw [setArr_get vs' c' _ _ (by omega), if_neg (by omega)]
  exact k2
theorem store_ok (hS : Sim ng ro base w0 m A w) {t : TypeId} {a : Addr} {v v' a' : Value} {A' : AH} (ha : VRel m (.pointer (some a)) a') (hv : VRel m v v') (h : aStore P ro A t a v = some A') :
 ∃ w', (Instr.storeAt t a' v').run P w = .ok () w' ∧ Step ng ro base w0 m A w m A' w' := by
 obtain ⟨b, o, rfl, rfl, _⟩ := ha.ptr_inv
 unfold aStore at h
 split at h
 ·rename_i c e vs n _ hc hvs hn
  split at h
  ·rename_i hle
   cases h
   simp only at hle hc
   obtain ⟨cs', h1, h2, h3, h4⟩ := hv.acells hvs
   obtain ⟨w', h5, h6⟩ := write_ok (P := P) (o := o) hS hc hle.2.1 (by omega) h3 h4
   refine ⟨w', ?_, h6⟩
   have hsz : v'.cells.size = n := by rw [← Array.length_toList, h2, ← h3.length]; exact hle.1
   simp [Instr.storeAt, Instr.sureAddr, storeVar, run_size hn, hsz, h2, h5]
  ·cases h
 ·cases h
theorem fill_ok {places : Nat → Option (Nat × Nat)} {ps : List (Nat × Nat)} (hps : ∀ i x, ps[i]? = some x → places i = some x) : ∀ (parts parts' : List (Nat × Value)) (cells : List Value) (cells' : Array Value) (out : List Value),
 parts.length = parts'.length → (∀ (i j : Nat) (v : Value), parts[i]? = some (j, v) → ∃ v', parts'[i]? = some (j, v') ∧ VRel m v v') → VRels m cells cells'.toList → (∀ v ∈ cells, v.oneCell' = true) →
 aFill ps cells parts = some out → ∃ out', Instr.fill places cells' parts' = some out' ∧ VRels m out out'.toList ∧ ∀ v ∈ out, v.oneCell' = true := by
 intro parts
 induction parts with
 | nil =>
   intro parts' cells cells' out hl _ hc h1 h
   obtain rfl : parts' = [] := by simpa using hl.symm
   cases h
   exact ⟨cells', rfl, hc, h1⟩
 | cons p parts ih =>
   obtain ⟨j, v⟩ := p
   intro parts' cells cells' out hl hp hc h1 h
   cases parts' with
   | nil => simp at hl
   | cons p' parts' =>
     obtain ⟨v', hv', hr⟩ := hp 0 j v rfl
     simp at hv'
     subst hv'
     unfold aFill at h
     split at h
     ·rename_i off size vs hpl hvs
      split at h
      ·rename_i hle
       obtain ⟨cs', g1, g2, g3, g4⟩ := hr.acells hvs
       have hfold : (v'.cells.zipIdx.foldl (fun (cs : Array Value) (x : Value × Nat) => cs.setIfInBounds (off + x.2) x.1) cells').toList = setCells cells'.toList off cs' := by
        rw [← Array.foldl_toList, Array.toList_zipIdx, g2]
        have key : ∀ (l : List Value) (k : Nat) (cs : Array Value), (List.foldl (fun (cs : Array Value) (x : Value × Nat) => cs.setIfInBounds (off + x.2) x.1) cs (l.zipIdx k)).toList = setCells cs.toList (off + k) l := by
         intro l
         induction l with
         | nil => intro k cs; rfl
         | cons u l ih => intro k cs; rw [List.zipIdx_cons, List.foldl_cons, ih]; simp [setCells, Nat.add_assoc]
        simpa using key cs' 0 cells'
       have hsize : v'.cells.size = size := by rw [← Array.length_toList, g2, ← g3.length]; exact hle.1
       have hsz : cells'.size = cells.length := by rw [← Array.length_toList]; exact hc.length.symm
       obtain ⟨out', k1, k2, k3⟩ := ih parts' (setCells cells off vs) (v'.cells.zipIdx.foldl (fun (cs : Array Value) (x : Value × Nat) => cs.setIfInBounds (off + x.2) x.1) cells') out (by simpa using hl)
        (fun i j u hu => by simpa using hp (i + 1) j u (by simpa using hu)) (by rw [hfold]; exact hc.setCells off g3) (by
         intro u hu
         obtain ⟨i, hi⟩ := List.getElem?_of_mem hu
         rw [setCells_get _ _ _ _ (by rw [hle.1]; exact hle.2)] at hi
         split at hi
         ·exact g4 u (List.mem_of_getElem? hi)
         ·exact h1 u (List.mem_of_getElem? hi)) h
       refine ⟨out', ?_, k2, k3⟩
       unfold Instr.fill
       rw [hps _ _ hpl]
       simp only [hsize, hsz, ne_eq, not_true_eq_false, decide_false, Bool.false_or]
       rw [if_neg (by simpa using hle.2)]
       exact k1
      ·cases h
     ·cases h
end
end Go.AM
namespace Go.AM
open Go
structure ExtX (F : List Nat) (A A' : AH) : Prop where
 size : A.size ≤ A'.size
 get : ∀ b, b < A.size → b ∉ F → A'.get b = A.get b
theorem Ext.x {A A' : AH} (h : Ext A A') (F : List Nat) : ExtX F A A' := ⟨h.size, fun b hb _ => h.get b hb⟩
theorem ExtX.ext {A A' : AH} (h : ExtX [] A A') : Ext A A' := ⟨h.size, fun b hb => h.get b hb (by simp)⟩
theorem ExtX.refl (F : List Nat) (A : AH) : ExtX F A A := ⟨Nat.le_refl _, fun _ _ _ => rfl⟩
theorem ExtX.trans {F : List Nat} {A A' A'' : AH} (h : ExtX F A A') (k : ExtX F A' A'') : ExtX F A A'' :=
 ⟨Nat.le_trans h.size k.size, fun b hb hn => (k.get b (Nat.lt_of_lt_of_le hb h.size) hn).trans (h.get b hb hn)⟩
theorem ExtX.mono {F G : List Nat} {A A' : AH} (h : ExtX F A A') (hs : ∀ b, b ∈ F → b ∈ G) : ExtX G A A' := ⟨h.size, fun b hb hn => h.get b hb fun hf => hn (hs b hf)⟩
theorem ExtX.put {F : List Nat} {A A' : AH} (h : ExtX F A A') {b : Nat} (hb : b ∈ F) (o : AObj) : ExtX F A (A'.put b o) :=
 ⟨h.size, fun b' hb' hn => (AH.gPo fun e => hn (by rw [e]; exact hb)).trans (h.get b' hb' hn)⟩
theorem nodup_focus {b : Nat} {G1 Fi G2 : List Nat} (h : (b :: (G1 ++ (Fi ++ G2))).Nodup) : b ∉ G1 ++ G2 ∧ b ∉ Fi ∧ (∀ x, x ∈ Fi → x ∉ G1 ++ G2) := by
 rw [List.nodup_cons] at h
 obtain ⟨h1, h2⟩ := h
 simp only [List.mem_append, not_or] at h1 ⊢
 refine ⟨⟨h1.1, h1.2.2⟩, h1.2.1, fun x hx => ?_⟩
 rw [List.nodup_append] at h2
 obtain ⟨_, h3, h4⟩ := h2
 rw [List.nodup_append] at h3
 exact ⟨fun hm => h4 x hm x (List.mem_append_left _ hx) rfl, fun hm => h3.2.2 x hx x hm rfl⟩
structure Fresh (A : AH) (F : List Nat) (A' : AH) : Prop where
 nodup : F.Nodup
 lo : ∀ b, b ∈ F → A.size ≤ b
 hi : ∀ b, b ∈ F → b < A'.size
theorem Fresh.nil (A A' : AH) : Fresh A [] A' := ⟨.nil, by simp, by simp⟩
theorem Fresh.append {A A1 A2 : AH} {F G : List Nat} (h : Fresh A F A1) (k : Fresh A1 G A2) (h1 : A.size ≤ A1.size) (h2 : A1.size ≤ A2.size) : Fresh A (F ++ G) A2 := by
 refine ⟨List.nodup_append.2 ⟨h.nodup, k.nodup, fun a ha b hb e => ?_⟩, fun b hb => ?_, fun b hb => ?_⟩
 ·have := h.hi a ha; have := k.lo b hb; omega
 ·rcases List.mem_append.1 hb with hb | hb
  ·exact h.lo b hb
  ·have := k.lo b hb; omega
 ·rcases List.mem_append.1 hb with hb | hb
  ·have := h.hi b hb; omega
  ·exact k.hi b hb
theorem Fresh.cons {A A1 A2 : AH} {b : Nat} {G : List Nat} (h : A.size ≤ b) (hb : b < A1.size) (k : Fresh A1 G A2) (h2 : A1.size ≤ A2.size) (h1 : A.size ≤ A1.size) : Fresh A (b :: G) A2 := by
 have : Fresh A [b] A1 := ⟨by simp, fun x hx => by simp at hx; omega, fun x hx => by simp at hx; omega⟩
 exact this.append k h1 h2
theorem Fresh.mono {A A0 A1 A2 : AH} {F : List Nat} (h : Fresh A F A1) (h0 : A0.size ≤ A.size) (h2 : A1.size ≤ A2.size) : Fresh A0 F A2 :=
 ⟨h.nodup, fun b hb => Nat.le_trans h0 (h.lo b hb), fun b hb => Nat.lt_of_lt_of_le (h.hi b hb) h2⟩
theorem Fresh.ne {A A' : AH} {F : List Nat} (h : Fresh A F A') {b : Nat} (hb : b < A.size) : b ∉ F := fun hm => by have := h.lo b hm; omega
theorem setCells_take (c vs : List Value) (o : Nat) (h : o + vs.length ≤ c.length) : (setCells c o vs).take (o + vs.length) = c.take o ++ vs := by
 refine List.ext_getElem? fun i => ?_
 rw [List.getElem?_take, List.getElem?_append, List.length_take, Nat.min_eq_left (by omega), setCells_get vs c o i h]
 by_cases h1 : i < o
 ·rw [if_pos (by omega), if_neg (by omega), if_pos h1, List.getElem?_take, if_pos h1]
 ·rw [if_neg h1]
  by_cases h2 : i < o + vs.length
  ·rw [if_pos h2, if_pos (by omega)]
  ·rw [if_neg h2, List.getElem?_eq_none (by omega)]
section
variable {α : Type} [Dat α]
structure Part (A : AH) (b n : Nat) (l : List α) (F : List Nat) : Prop where
 lt : b < A.size
 row : ∃ c, A.get b = .cells c (Dat.w α) ∧ c.length = n * Dat.w α ∧ Reps A l (c.take (l.length * Dat.w α)) F
 le : l.length ≤ n
theorem Part.frame {A A' : AH} {b n : Nat} {l : List α} {F : List Nat} (h : Part A b n l F) (h1 : A'.get b = A.get b) (h2 : A.size ≤ A'.size) (hF : ∀ b, b ∈ F → A'.get b = A.get b) : Part A' b n l F := by
 obtain ⟨hl, ⟨c, g1, g2, g3⟩, hle⟩ := h
 exact ⟨by omega, ⟨c, h1.trans g1, g2, g3.frame fun x hx => ⟨hF x hx, by have := g3.bound x hx; omega⟩⟩, hle⟩
theorem Part.ext {A A' : AH} {b n : Nat} {l : List α} {F : List Nat} (h : Part A b n l F) (hE : Ext A A') : Part A' b n l F := by
 obtain ⟨c, _, _, h3⟩ := h.row
 exact h.frame (hE.get b h.lt) hE.size fun x hx => hE.get x (h3.bound x hx)
theorem Part.start {A : AH} {b n : Nat} {c : List Value} (hb : b < A.size) (hg : A.get b = .cells c (Dat.w α)) (hc : c.length = n * Dat.w α) : Part A b n ([] : List α) [] :=
 ⟨hb, ⟨c, hg, hc, by simpa using Reps.nil⟩, Nat.zero_le _⟩
theorem Part.store {A : AH} {b n : Nat} {l : List α} {F : List Nat} (h : Part A b n l F) (hF : b ∉ F) {x : α} {cs : List Value} {G : List Nat} (hx : Dat.rep A x cs G) (hG : b ∉ G) (hn : l.length < n)
 {c : List Value} {w : Nat} (hg : A.get b = .cells c w) : Part (A.put b (.cells (setCells c (l.length * Dat.w α) cs) w)) b n (l ++ [x]) (F ++ G) := by
 obtain ⟨hl, ⟨c', g1, g2, g3⟩, hle⟩ := h
 rw [hg] at g1
 cases g1
 have hcs := Dat.len hx
 have hw : (l.length + 1) * Dat.w α ≤ n * Dat.w α := Nat.mul_le_mul_right _ hn
 rw [Nat.succ_mul] at hw
 have fr : ∀ (H : List Nat), b ∉ H → (∀ y, y ∈ H → y < A.size) → ∀ y, y ∈ H → (A.put b (.cells (setCells c (l.length * Dat.w α) cs) (Dat.w α))).get y = A.get y ∧ y < (A.put b (.cells (setCells c (l.length * Dat.w α) cs) (Dat.w α))).size :=
  fun H hH hlt y hy => ⟨AH.gPo fun e => hH (e ▸ hy), hlt y hy⟩
 refine ⟨hl, ⟨_, AH.gPs _ _ _, by rw [setCells_length]; exact g2, ?_⟩, by simp; omega⟩
 have ht := setCells_take c cs (l.length * Dat.w α) (by omega)
 rw [hcs, ← Nat.succ_mul] at ht
 rw [List.length_append, List.length_singleton, ht]
 exact (g3.frame (fr F hF g3.bound)).append (Reps.one (Dat.frame hx (fr G hG (Dat.bound hx))))
theorem Part.done {A : AH} {b n : Nat} {l : List α} {F : List Nat} (h : Part A b n l F) (hn : l.length = n) (hB : n < BIG) : SlR A ⟨false, b, 0, n, n⟩ l (b :: F) := by
 obtain ⟨hl, ⟨c, g1, g2, g3⟩, hle⟩ := h
 exact .inB ⟨rfl, hl, hn.symm, .inr ⟨Nat.le_refl _, hB⟩, c, _, F, g1, by simp [g2], by rw [List.drop_zero]; show c.take (n * Dat.w α) = c.take (l.length * Dat.w α); rw [hn], g3, rfl⟩
theorem Reps.focus {A : AH} {l : List α} {cs : List Value} {F : List Nat} (h : Reps A l cs F) : ∀ (i : Nat) (hi : i < l.length), ∃ G1 Fi G2 c1 ci c2, F = G1 ++ (Fi ++ G2) ∧ cs = c1 ++ (ci ++ c2) ∧ c1.length = i * Dat.w α ∧ Dat.rep A l[i] ci Fi ∧
 ∀ (A' : AH) (x' : α) (ci' : List Value) (Fi' : List Nat), (∀ b, b ∈ G1 ++ G2 → A'.get b = A.get b ∧ b < A'.size) → Dat.rep A' x' ci' Fi' → Reps A' (l.set i x') (c1 ++ (ci' ++ c2)) (G1 ++ (Fi' ++ G2)) := by
 induction h with
 | nil => intro i hi; simp at hi
 | cons h k ih =>
   rename_i x l c cs F G
   intro i hi
   cases i with
   | zero =>
     refine ⟨[], F, G, [], c, cs, rfl, rfl, by simp, h, fun A' x' ci' Fi' hf hr => ?_⟩
     show Reps A' (x' :: l) (ci' ++ cs) (Fi' ++ G)
     exact .cons hr (k.frame fun b hb => hf b hb)
   | succ i =>
     obtain ⟨G1, Fi, G2, c1, ci, c2, e1, e2, e3, e4, e5⟩ := ih i (by simpa using hi)
     refine ⟨F ++ G1, Fi, G2, c ++ c1, ci, c2, by rw [e1, List.append_assoc], by rw [e2, List.append_assoc], by rw [List.length_append, e3, Dat.len h, Nat.succ_mul, Nat.add_comm], by simpa using e4, fun A' x' ci' Fi' hf hr => ?_⟩
     rw [List.append_assoc, List.append_assoc, List.set_cons_succ]
     exact .cons (Dat.frame h fun b hb => hf b (by simp [hb])) (e5 A' x' ci' Fi' (fun b hb => hf b (by rcases List.mem_append.1 hb with hb | hb <;> simp [hb])) hr)
theorem row_split {c c1 ci c2 : List Value} {o n : Nat} (h : (c.drop o).take n = c1 ++ (ci ++ c2)) (hl : o + n ≤ c.length) : (c.drop (o + c1.length)).take ci.length = ci ∧ c1.length + ci.length ≤ n := by
 have hlen : c1.length + (ci.length + c2.length) = n := by
  have := congrArg List.length h
  simp only [List.length_take, List.length_drop, List.length_append] at this
  omega
 refine ⟨?_, by omega⟩
 have h2 := congrArg (fun x => (x.drop c1.length).take ci.length) h
 simp only [List.drop_left, List.take_left] at h2
 rw [List.drop_take, List.take_take, List.drop_drop, Nat.min_eq_left (by omega)] at h2
 exact h2
theorem SlR.focus {A : AH} {s : Sl} {l : List α} {F : List Nat} (h : SlR A s l F) {i : Nat} (hi : i < l.length) :
 ∃ c G1 Fi G2 ci, s.nl = false ∧ s.b < A.size ∧ i < s.len ∧ A.get s.b = .cells c (Dat.w α) ∧ s.o + i * Dat.w α + Dat.w α ≤ c.length ∧ F = s.b :: (G1 ++ (Fi ++ G2)) ∧ (c.drop (s.o + i * Dat.w α)).take (Dat.w α) = ci ∧ Dat.rep A l[i] ci Fi ∧
 ∀ (A' : AH) (x' : α) (Fi' : List Nat) (c' : List Value), A'.get s.b = .cells c' (Dat.w α) → s.b < A'.size → c'.length = c.length → (∀ j, j < s.o + i * Dat.w α ∨ s.o + i * Dat.w α + Dat.w α ≤ j → c'[j]? = c[j]?) →
   (∀ b, b ∈ G1 ++ G2 → A'.get b = A.get b ∧ b < A'.size) → Dat.rep A' x' ((c'.drop (s.o + i * Dat.w α)).take (Dat.w α)) Fi' → SlR A' s (l.set i x') (s.b :: (G1 ++ (Fi' ++ G2))) := by
 cases h with
 | nil _ hl _ => subst hl; simp at hi
 | empty _ _ _ hl _ => subst hl; simp at hi
 | inB h =>
   obtain ⟨h1, h2, h3, h4, c, cs, G, h5, h6, h7, h8, rfl⟩ := h
   obtain ⟨G1, Fi, G2, c1, ci, c2, rfl, e2, e3, e4, e5⟩ := h8.focus i hi
   subst h7
   obtain ⟨s1, s2⟩ := row_split e2 h6
   have hci := Dat.len e4
   rw [e3, hci] at s1
   rw [e3] at s2
   refine ⟨c, G1, Fi, G2, ci, h1, h2, by rw [h3]; exact hi, h5, by omega, rfl, s1, e4, fun A' x' Fi' c' k1 k2 k3 k4 k5 k6 => ?_⟩
   refine .inB ⟨h1, k2, by rw [h3]; simp, h4, c', c1 ++ ((c'.drop (s.o + i * Dat.w α)).take (Dat.w α) ++ c2), _, k1, by omega, ?_, e5 A' x' _ Fi' k5 k6, rfl⟩
   refine List.ext_getElem? fun j => ?_
   have hl' := congrArg List.length e2
   simp only [List.length_take, List.length_drop, List.length_append] at hl'
   have hj : ∀ j : Nat, ((c.drop s.o).take (s.len * Dat.w α))[j]? = (c1 ++ (ci ++ c2))[j]? := fun j => by rw [e2]
   have hj2 := hj j
   rw [List.getElem?_take, List.getElem?_drop] at hj2 ⊢
   rw [List.getElem?_append, List.getElem?_append] at hj2 ⊢
   rw [List.length_take, List.length_drop, k3, Nat.min_eq_left (by omega)]
   rw [hci] at hj2
   by_cases a1 : j < c1.length
   ·rw [if_pos a1] at hj2 ⊢
    rw [k4 _ (.inl (by omega))]; exact hj2
   ·rw [if_neg a1] at hj2 ⊢
    by_cases a2 : j - c1.length < Dat.w α
    ·rw [if_pos a2, List.getElem?_take, if_pos a2, List.getElem?_drop]
     rw [if_pos (by omega)]
     congr 1; omega
    ·rw [if_neg a2] at hj2 ⊢
     rw [k4 _ (.inr (by omega))]; exact hj2
end
theorem set_append_drop {α : Type} (m l : List α) (i : Nat) (x : α) (hm : m.length = i) (hi : i < l.length) : (m ++ l.drop i).set i x = m ++ [x] ++ l.drop (i + 1) := by
 rw [List.set_append_right _ _ (by omega), hm, Nat.sub_self, List.drop_eq_getElem_cons hi, List.set_cons_zero]
 simp
end Go.AM
namespace Go.AM
open Go
def mkGo (n : Nat) (s : ByteArray) : ByteArray := if n = 0 then s else mkGo (n / 10) (⟨#[UInt8.ofNat (48 + n % 10)]⟩ ++ s)
termination_by n
decreasing_by omega
def mkText (k : Int) : ByteArray := if k ≤ 0 then ⟨#[109, 48]⟩ else ⟨#[109]⟩ ++ mkGo k.toNat ByteArray.empty
theorem mkGo_size (n : Nat) (s : ByteArray) : (mkGo n s).size ≤ n + s.size := by
 induction n using Nat.strongRecOn generalizing s with
 | _ n ih =>
   unfold mkGo
   split
   ·omega
   ·refine Nat.le_trans (ih _ (by omega) _) ?_
    have : (ByteArray.mk #[UInt8.ofNat (48 + n % 10)] ++ s).size = 1 + s.size := by
     rw [ByteArray.size_append]; rfl
    omega
theorem mkText_size (k : Int) (h : k < 1152921504606846976) : (mkText k).size < BIG := by
 unfold mkText
 split
 ·show 2 < BIG; unfold BIG; omega
 ·rw [ByteArray.size_append]
  have := mkGo_size k.toNat ByteArray.empty
  have e1 : (ByteArray.mk #[109]).size = 1 := rfl
  have e2 : ByteArray.empty.size = 0 := rfl
  unfold BIG
  omega
def szL {α : Type} (f : α → Nat) (l : List α) : Nat := l.length + (l.map f).sum
theorem szL_append {α : Type} (f : α → Nat) (l k : List α) : szL f (l ++ k) = szL f l + szL f k := by
 simp only [szL, List.length_append, List.map_append, List.sum_append]; omega
theorem szL_take_succ {α : Type} (f : α → Nat) (l : List α) (i : Nat) (h : i < l.length) : szL f (l.take (i + 1)) = szL f (l.take i) + 1 + f l[i] := by
 rw [List.take_succ_eq_append_getElem h, szL_append]
 simp [szL]
 omega
theorem szL_take_le {α : Type} (f : α → Nat) (l : List α) (i : Nat) : szL f (l.take i) + (l.length - i) ≤ szL f l := by
 have h := szL_append f (l.take i) (l.drop i)
 rw [List.take_append_drop] at h
 have : l.length - i ≤ szL f (l.drop i) := by simp only [szL, List.length_drop]; omega
 omega
end Go.AM
