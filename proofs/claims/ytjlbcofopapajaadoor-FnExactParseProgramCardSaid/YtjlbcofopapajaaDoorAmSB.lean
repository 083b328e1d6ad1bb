import Derived.Test.YtjlbcofopapajaaDoorAmSA
import Derived.Laws.Tables
import Derived.Laws.BytesString
import Derived.IntWalk
namespace Go.AM
open Go Go.RowKit
section
variable {P : Program} {ng ro base : Nat} {w0 : World} {m : Emb} {A : AH} {w : World}
def ORel (m : Emb) : Option Value → Option Value → Prop
 | none, none => True
 | some v, some v' => VRel m v v'
 | _, _ => False
theorem bound_ok {x x' : Option Value} {d n : Nat} (hx : ORel m x x') (h : aBound x d = some n) :
 (x = none ∧ x' = none ∧ n = d) ∨ (∃ k i, x = some (.int k i) ∧ x' = some (.int k i) ∧ 0 ≤ i ∧ n = i.toNat) := by
 cases x with
 | none =>
   cases x' with
   | none => cases h; exact .inl ⟨rfl, rfl, rfl⟩
   | some v' => exact hx.elim
 | some v =>
   cases x' with
   | none => exact hx.elim
   | some v' =>
     cases v <;> simp only [aBound] at h <;> try (cases h; done)
     rename_i k i
     split at h
     ·cases h
      obtain rfl := VRel.int_l hx
      exact .inr ⟨k, i, rfl, rfl, ‹_›, rfl⟩
     ·cases h
theorem run_sliceBound {k : IntKind} {i : Int} {y : Nat} {code : BoundsCode} (h0 : 0 ≤ i) (h1 : i.toNat ≤ y) (w : World) : (Instr.sliceBound (.int k i) y code).run P w = .ok i.toNat w := by
 have : i ≤ y := by omega
 simp [Instr.sliceBound, asIntOf, h0, this]
theorem run_bounds (w : World) {s : Bool} {len cap l h : Nat} {lo hi lo' hi' : Option Value} (hlo : ORel m lo lo') (hhi : ORel m hi hi') (hl : aBound lo 0 = some l) (hh : aBound hi len = some h) (h1 : l ≤ h)
 (h2 : h ≤ len) (h3 : len ≤ cap) : (Instr.sliceBounds s len cap lo' hi' none).run P w = .ok (l, h, cap) w := by
 have e1 : h ≤ cap := by omega
 rcases bound_ok hlo hl with ⟨_, rfl, rfl⟩ | ⟨k, i, _, rfl, hi0, rfl⟩ <;> rcases bound_ok hhi hh with ⟨_, rfl, rfl⟩ | ⟨k', j, _, rfl, hj0, rfl⟩
 ·simp [Instr.sliceBounds]
 ·cases s <;> simp [Instr.sliceBounds, run_sliceBound hj0 e1]
 ·simp [Instr.sliceBounds, run_sliceBound hi0 h1]
 ·cases s <;> simp [Instr.sliceBounds, run_sliceBound hj0 e1, run_sliceBound hi0 h1]
theorem run_bounds3 (w : World) {s : Bool} {len cap l h q : Nat} {lo hi lo' hi' : Option Value} {v v' u : Value} (hlo : ORel m lo lo') (hhi : ORel m hi hi') (hu : hi = some u) (hv : VRel m v v') (hl : aBound lo 0 = some l)
 (hh : aBound hi len = some h) (hq : aBound (some v) 0 = some q) (h1 : l ≤ h) (h2 : h ≤ q) (h3 : q ≤ cap) : (Instr.sliceBounds s len cap lo' hi' (some v')).run P w = .ok (l, h, q) w := by
 have hv' : ORel m (some v) (some v') := hv
 rcases bound_ok hv' hq with ⟨e, _⟩ | ⟨k3, i3, _, e3, hq0, rfl⟩
 ·cases e
 cases e3
 rcases bound_ok hhi hh with ⟨e, _⟩ | ⟨k', j, _, rfl, hj0, rfl⟩
 ·rw [hu] at e; cases e
 rcases bound_ok hlo hl with ⟨_, rfl, rfl⟩ | ⟨k, i, _, rfl, hi0, rfl⟩
 ·cases s <;> simp [Instr.sliceBounds, run_sliceBound hj0 h2, run_sliceBound hq0 h3]
 ·cases s <;> simp [Instr.sliceBounds, run_sliceBound hj0 h2, run_sliceBound hi0 h1, run_sliceBound hq0 h3]
theorem run_sliceAt {t el : TypeId} {i : TypeInfo} (hu : P.underlying t = some (.slice el)) (hi : P.info? el = some i) {a : Option Addr} {len cap l h q : Nat} {lo hi' mx : Option Value} (w : World)
 (hb : (Instr.sliceBounds true len cap lo hi' mx).run P w = .ok (l, h, q) w) :
 (Instr.sliceAt t (.slice a len cap) lo hi' mx).run P w = .ok (.slice (if q = l then a else a.map (·.add (l * i.size))) (h - l) (q - l)) w := by
 simp [Instr.sliceAt, Instr.slice, run_und hu, hb, run_sizeI hi]
theorem slice_ok (hS : Sim ng ro base w0 m A w) {t : TypeId} {x x' r : Value} {lo hi mx lo' hi' mx' : Option Value} (hx : VRel m x x') (hlo : ORel m lo lo') (hhi : ORel m hi hi') (hmx : ORel m mx mx')
 (h : aSlice P A t x lo hi mx = some r) : ∃ r', (Instr.sliceAt t x' lo' hi' mx').run P w = .ok r' w ∧ VRel m r r' := by
 unfold aSlice at h
 split at h
 ·rename_i s
  obtain rfl := hx.str_l
  split at h
  ·rename_i l hh hk hl hhe
   split at h
   ·rename_i hle
    cases h
    cases mx' with
    | some v => exact hmx.elim
    | none =>
      have hb := run_bounds (P := P) w (s := false) hlo hhi hl hhe hle.1 hle.2 (Nat.le_refl _)
      exact ⟨.string (s.extract l hh), by simp [Instr.sliceAt, Instr.slice, run_und (tKind_str hk), hb], .string _⟩
   ·cases h
  ·cases h
 ·rename_i a len cap
  split at h
  ·rename_i sz l hh hsz hl hhe
   obtain ⟨el, i, _, hu, hi, rfl, _⟩ := tElemSize_und hsz
   split at h
   ·rename_i hle
    split at h
    ·cases mx' with
     | some v => exact hmx.elim
     | none =>
       split at h
       ·rename_i hcap
        cases h
        cases hx with
        | slNil =>
          have hb := run_bounds (P := P) w (s := true) (cap := 0) hlo hhi hl hhe hle.1 hle.2 (Nat.le_refl _)
          obtain ⟨h1, h2⟩ := hle
          obtain rfl : hh = 0 := by omega
          obtain rfl : l = 0 := by omega
          exact ⟨_, run_sliceAt hu hi w hb, by simpa using VRel.slNil⟩
        | slEmpty p p' c hc hd0 =>
          have hb := run_bounds (P := P) w (s := true) (cap := 0) hlo hhi hl hhe hle.1 hle.2 (Nat.le_refl _)
          obtain ⟨h1, h2⟩ := hle
          obtain rfl : hh = 0 := by omega
          obtain rfl : l = 0 := by omega
          rcases hc with rfl | rfl
          ·exact ⟨_, run_sliceAt hu hi w hb, by simpa using VRel.slEmpty p p' 0 (.inl rfl) (fun h => (zeroNe h).elim)⟩
          ·exact absurd hcap (Nat.lt_irrefl _)
        | slExact b o n c hd hc hn =>
          have hb := run_bounds (P := P) w (s := true) (cap := cap) hlo hhi hl hhe hle.1 hle.2 hn
          refine ⟨_, run_sliceAt hu hi w hb, ?_⟩
          by_cases hq : cap = l
          ·rw [if_pos hq, if_pos hq]
           exact VRel.slExact b o _ _ hd (by omega) (by omega)
          ·rw [if_neg hq, if_neg hq]
           simp only [Option.map_some, ptr_add]
           rw [Nat.add_assoc]
           exact VRel.slExact b (o + l * i.size) _ _ hd (by omega) (by omega)
        | slBig b o n c hd hn hk => exact absurd hcap (Nat.lt_irrefl _)
       ·split at h
        ·rename_i p
         split at h
         ·rename_i c0 e0 hg
          split at h
          ·rename_i hce
           obtain ⟨rfl, rfl⟩ := hce
           cases h
           cases hx with
           | slEmpty p p' c hc hd0 =>
             have hb := run_bounds (P := P) w (s := true) (cap := 0) hlo hhi hl hhe hle.1 hle.2 (Nat.le_refl _)
             obtain ⟨h1, h2⟩ := hle
             obtain rfl : hh = 0 := by omega
             obtain rfl : l = 0 := by omega
             exact ⟨_, run_sliceAt hu hi w hb, by simpa using VRel.slEmpty _ p' BIG (.inr rfl) (fun _ => by simpa [Addr.add] using hd0 rfl)⟩
           | slExact b o n c hd hc hn => exact absurd hc (Nat.lt_irrefl _)
           | slBig b o n c hd hn hk =>
             have hb := run_bounds (P := P) w (s := true) (cap := c) hlo hhi hl hhe hle.1 hle.2 hn
             refine ⟨_, run_sliceAt hu hi w hb, ?_⟩
             by_cases hq : c = l
             ·rw [if_pos hq]
              obtain rfl : hh = l := by omega
              rw [hq, Nat.sub_self]
              exact VRel.slEmpty _ _ BIG (.inr rfl) (fun _ => by rw [AM.ptr_add]; exact hd)
             ·rw [if_neg hq]
              simp only [Option.map_some, ptr_add]
              rw [Nat.add_assoc]
              obtain ⟨_, _, _, _, _, he, _⟩ := hS.cells b c0 _ hg
              refine VRel.slBig b (o + l * i.size) _ _ hd (by omega) ?_
              rw [he.sz, esz_lt (tElemSize_lt hsz)] at hk ⊢
              have : (c - l) * i.size + l * i.size = c * i.size := by rw [← Nat.add_mul]; congr 1; omega
              omega
          ·cases h
         ·cases h
        ·cases h
    ·rename_i v
     cases mx' with
     | none => exact hmx.elim
     | some v' =>
     have hmx : VRel m v v' := hmx
     split at h
     ·rename_i q hq
      split at h
      ·rename_i hm
       cases h
       cases hx with
       | slNil =>
         have hb := run_bounds3 (P := P) w (s := true) (cap := 0) hlo hhi rfl hmx hl hhe hq hle.1 hm.1 (by omega)
         obtain rfl : q = 0 := by omega
         obtain rfl : hh = 0 := by omega
         obtain rfl : l = 0 := by omega
         exact ⟨_, run_sliceAt hu hi w hb, by simpa using VRel.slNil⟩
       | slEmpty p p' c hc hd0 =>
         have hb := run_bounds3 (P := P) w (s := true) (cap := 0) hlo hhi rfl hmx hl hhe hq hle.1 hm.1 (by omega)
         obtain rfl : q = 0 := by omega
         obtain rfl : hh = 0 := by omega
         obtain rfl : l = 0 := by omega
         exact ⟨_, run_sliceAt hu hi w hb, by simpa using VRel.slEmpty p p' 0 (.inl rfl) (fun h => (zeroNe h).elim)⟩
       | slExact b o n c hd hc hn =>
         have hb := run_bounds3 (P := P) w (s := true) (cap := cap) hlo hhi rfl hmx hl hhe hq hle.1 hm.1 (by omega)
         refine ⟨_, run_sliceAt hu hi w hb, ?_⟩
         by_cases hql : q = l
         ·rw [if_pos hql, if_pos hql]
          exact VRel.slExact b o _ _ hd (by omega) (by omega)
         ·rw [if_neg hql, if_neg hql]
          simp only [Option.map_some, ptr_add]
          rw [Nat.add_assoc]
          exact VRel.slExact b (o + l * i.size) _ _ hd (by omega) (by omega)
       | slBig b o n c hd hn hk =>
         have hb := run_bounds3 (P := P) w (s := true) (cap := c) hlo hhi rfl hmx hl hhe hq hle.1 hm.1 (by omega)
         refine ⟨_, run_sliceAt hu hi w hb, ?_⟩
         by_cases hql : q = l
         ·rw [if_pos hql, if_pos hql]
          exact VRel.slExact b o _ _ hd (by unfold BIG; omega) (by omega)
         ·rw [if_neg hql, if_neg hql]
          simp only [Option.map_some, ptr_add]
          rw [Nat.add_assoc]
          exact VRel.slExact b (o + l * i.size) _ _ hd (by omega) (by omega)
      ·cases h
     ·cases h
   ·cases h
  ·cases h
 ·rename_i p
  split at h
  ·rename_i mx0 n el sz l ha hl
   split at h
   ·rename_i hh hhe
    split at h
    ·rename_i hle
     cases h
     cases mx' with
     | some v => exact hmx.elim
     | none =>
       obtain ⟨hua, hsz⟩ := tArray_und ha
       have hb := run_bounds (P := P) w (s := false) (cap := n) hlo hhi hl hhe hle.1 hle.2.1 (Nat.le_refl _)
       obtain ⟨b, o, rfl, rfl, hd⟩ := hx.ptr_inv
       refine ⟨.slice (some (if n = l then ⟨m.r b, m.s b + o, none⟩ else (⟨m.r b, m.s b + o, none⟩ : Addr).add (l * sz))) (hh - l) (n - l), ?_, ?_⟩
       ·simp [Instr.sliceAt, run_und hua, Instr.sureAddr, hb, run_size hsz]
       ·by_cases hnl : n = l
        ·rw [if_pos hnl, if_pos hnl]
         exact VRel.slExact b o _ _ hd (by omega) (by omega)
        ·rw [if_neg hnl, if_neg hnl]
         simp only [ptr_add]
         rw [Nat.add_assoc]
         exact VRel.slExact b (o + l * sz) _ _ hd (by omega) (by omega)
    ·cases h
   ·cases h
  ·cases h
 ·cases h
theorem indexAddr_ok {t : TypeId} {x i x' i' r : Value} (hx : VRel m x x') (hi : VRel m i i') (h : aIndexAddr P t x i = some r) (w : World) : ∃ r', (Instr.indexAt t x' i').run P w = .ok r' w ∧ VRel m r r' := by
 unfold aIndexAddr at h
 split at h
 ·rename_i a len cap k j
  obtain rfl := hi.int_l
  split at h
  ·rename_i sz hsz
   obtain ⟨el, inf, _, hu, hi, rfl, _⟩ := tElemSize_und hsz
   split at h
   ·rename_i hj
    cases h
    have key : ∀ {a' : Addr} {len' cap' : Nat}, len' = len → (Instr.indexAt t (.slice (some a') len' cap') (.int k j)).run P w = .ok (.pointer (some (a'.add (j.toNat * inf.size)))) w := by
     intro a' len' cap' hl
     subst hl
     simp [Instr.indexAt, asIntOf, run_und hu, hj.1, hj.2, run_sizeI hi]
    cases hx with
    | slEmpty p p' c hc hd0 => have := hj.1; have := hj.2; simp at this; omega
    | slExact b o n c hd hc hn => exact ⟨_, key rfl, (VRel.ptr b o hd).ptr_add _⟩
    | slBig b o n c hd hn hk => exact ⟨_, key rfl, (VRel.ptr b o hd).ptr_add _⟩
   ·cases h
  ·cases h
 ·rename_i a k j
  obtain rfl := hi.int_l
  obtain ⟨b, o, rfl, rfl, hd⟩ := hx.ptr_inv
  split at h
  ·rename_i n el sz ha
   obtain ⟨hu, hs⟩ := tArray_und ha
   split at h
   ·rename_i hj
    cases h
    exact ⟨_, by simp [Instr.indexAt, asIntOf, run_und hu, Instr.sureAddr, hj.1, hj.2, run_size hs], (VRel.ptr b o hd).ptr_add _⟩
   ·cases h
  ·cases h
 ·cases h
theorem bytes_get (s : ByteArray) (i : Nat) : s[i]? = s.data[i]? := by
 by_cases h : i < s.size
 ·have h' : i < s.data.size := h
  rw [getElem?_pos s i h, getElem?_pos s.data i h']; rfl
 ·have h' : ¬ i < s.data.size := h
  rw [getElem?_neg s i h, getElem?_neg s.data i h']
theorem index_ok {t : TypeId} {x i x' i' r : Value} (hx : VRel m x x') (hi : VRel m i i') (h : aIndex P t x i = some r) (w : World) : ∃ r', (Instr.index t x' i').run P w = .ok r' w ∧ VRel m r r' := by
 unfold aIndex at h
 split at h
 ·rename_i s k j
  obtain rfl := hi.int_l
  obtain rfl := hx.str_l
  split at h
  ·rename_i hk
   split at h
   ·rename_i hj
    obtain ⟨b, hb, rfl⟩ := Option.map_eq_some_iff.1 h
    exact ⟨_, by simp [Instr.index, asIntOf, run_und (tKind_str hk), hj, bytes_get, hb], .int _ _⟩
   ·cases h
  ·cases h
 ·rename_i cs k j
  obtain rfl := hi.int_l
  cases hx with
  | agg _ cs' hcs _ =>
  split at h
  ·rename_i n el ha
   obtain ⟨hu, hs⟩ := tArray_und ha
   split at h
   ·rename_i hj
    obtain ⟨v', hv', hr⟩ := hcs.get h
    refine ⟨v', ?_, hr⟩
    have hv'' : cs'[j.toNat]? = some v' := by simpa using hv'
    simp [Instr.index, asIntOf, run_und hu, hj.2.1, hj.2.2, run_size hs, part, run_agg hj.1, hv'']
   ·cases h
  ·cases h
 ·cases h
theorem un_ok {op : UnOp} {x x' r : Value} (hx : VRel m x x') (h : aUn op x = some r) (w : World) : ∃ r', (Op.unary op x').run P w = .ok r' w ∧ VRel m r r' := by
 unfold aUn at h
 split at h
 ·cases h; obtain rfl := hx.bool_l; exact ⟨_, rfl, .bool _⟩
 ·cases h; obtain rfl := hx.int_l; exact ⟨_, by simp [Op.unary, Op.intArith], .int _ _⟩
 ·cases h
theorem len_ok (hS : Sim ng ro base w0 m A w) {t ty : TypeId} {x x' r : Value} (hx : VRel m x x') (h : aLen P A t x = some r) : ∃ r', (Builtin.len_ #[t] ty #[x']).run P w = .ok r' w ∧ VRel m r r' := by
 unfold aLen at h
 split at h
 ·rename_i s hk
  cases h
  obtain rfl := hx.str_l
  exact ⟨_, by simp [Builtin.len_, run_und (tKind_str hk), goInt], .int _ _⟩
 ·rename_i a n c hk
  cases h
  obtain ⟨el, hu⟩ := tKind_slice hk
  cases hx <;> exact ⟨_, by simp [Builtin.len_, run_und hu, goInt], .int _ _⟩
 ·rename_i hk
  cases h
  obtain ⟨k, el, hu⟩ := tKind_map hk
  cases hx
  exact ⟨_, by simp [Builtin.len_, run_und hu, goInt], .int _ _⟩
 ·rename_i b hk
  split at h
  ·rename_i es hes
   cases h
   obtain ⟨k, el, hu⟩ := tKind_map hk
   cases hx
   obtain ⟨_, es', cl, h1, h2⟩ := hS.maps b es hes
   refine ⟨.int .i64 es'.size, ?_, ?_⟩
   ·simp [Builtin.len_, run_und hu, goInt, getObj, Sem.run, h1]
   ·have := h2.1
    simp at this
    rw [this]
    exact .int _ _
  ·cases h
 ·cases h
theorem min_ok {ty : TypeId} {ts : Array TypeId} {xs xs' : List Value} {r : Value} (hx : VRels m xs xs') (h : aMin xs = some r) (w : World) : ∃ r', (Builtin.min_ ts ty xs'.toArray).run P w = .ok r' w ∧ VRel m r r' := by
 unfold aMin at h
 split at h
 ·rename_i k a k' b
  split at h
  ·rename_i hk
   subst hk
   cases h
   cases hx with | cons _ _ _ _ h1 h2 =>
   cases h2 with | cons _ _ _ _ h2 h3 =>
   cases h3
   obtain rfl := h1.int_l
   obtain rfl := h2.int_l
   exact ⟨_, by simp [Builtin.min_, Builtin.min2], .int _ _⟩
  ·cases h
 ·cases h
end
end Go.AM
namespace Go.AM
open Go Go.RowKit
section
variable {P : Program} {ng ro base : Nat} {w0 : World} {m : Emb} {A : AH} {w : World} {n0 : Nat} (hf : ¬ m.dom n0) (hr : ro ≤ n0)
theorem freeRow_zero {n : Nat} : FreeRow (0, 0) n := fun o _ h => by simp at h
theorem freeRow_end {n : Nat} : FreeRow (n, n + 1) n := fun o ho h => by simp at h; omega
theorem CRel.of {c c' : List Value} (h : VRels m c c') (h1 : ∀ v ∈ c, v.oneCell' = true) : CRel m 0 c c'.toArray := by
 intro i v hv
 obtain ⟨v', h2, h3⟩ := h.get hv
 exact ⟨h1 v (List.mem_of_getElem? hv), v', by simpa using h2, h3⟩
include hf hr in
theorem newRow_ok (hS : Sim ng ro base w0 m A w) {c c' : List Value} {e me : Nat} {el : TypeId} (h : VRels m c c') (h1 : ∀ v ∈ c, v.oneCell' = true) (he : ETag me e el (0, 0) 0 c.length) :
 ∃ w', (newRow el c'.toArray).run P w = .ok ⟨w.heap.size, 0, none⟩ w' ∧ Step ng ro base w0 m A w (m.add n0 w.heap.size 0 c.length me) (A.newAt n0 (.cells c e)) w' := by
 refine ⟨_, by simp [newRow]; rfl, ?_⟩
 have := Step.new hf hr (e := e) (c := c) (c' := c'.toArray) (el := el) (fz := (0, 0)) hS (w' := { w with heap := w.heap.push (.cells c'.toArray el) }) rfl rfl rfl rfl (by simp [h.length]) (CRel.of h h1) freeRow_zero (me := me) (by simpa [h.length] using he)
 simpa [h.length] using this
include hf hr in
theorem box_ok (hS : Sim ng ro base w0 m A w) {t : TypeId} {v v' : Value} {vs : List Value} {n me : Nat} (hv : VRel m v v') (hc : acells v = some vs) (he : ETag me n t (0, 0) 0 vs.length) :
 ∃ m' w' r, (Instr.box t v').run P w = .ok r w' ∧ Step ng ro base w0 m A w m' (A.newAt n0 (.cells vs n)) w' ∧ VRel m' (.pointer (some ⟨n0, 0, none⟩)) r ∧ DomOk m m' n0 := by
 obtain ⟨cs', h1, h2, h3, h4⟩ := hv.acells hc
 obtain ⟨w', h5, h6⟩ := newRow_ok hf hr (P := P) (e := n) (el := t) hS h3 h4 he
 refine ⟨_, w', .pointer (some ⟨w.heap.size, 0, none⟩), ?_, h6, ?_, .add⟩
 ·have : v'.cells = cs'.toArray := by rw [← h2]
  simp [Instr.box, newVar, this, h5]
 ·have := VRel.ptr (m := m.add n0 w.heap.size 0 vs.length me) n0 0 Emb.add_dom
  simpa using this
theorem ground_cells {z : Value} {cs : List Value} (hg : ground z = true) (hc : acells z = some cs) : z.cells.toList = cs ∧ ∀ v ∈ cs, ground1 v = true := by
 cases z <;> simp only [acells, Option.some.injEq] at hc <;> first
  | (cases hc; done)
  | (subst hc; exact ⟨rfl, by simpa [ground] using hg⟩)
  | (subst hc; refine ⟨rfl, ?_⟩; intro v hv; exact List.all_eq_true.1 hg v hv)
include hf hr in
theorem alloc_ok (hS : Sim ng ro base w0 m A w) {t : TypeId} {z : List Value} {n me : Nat} (hz : (tZero P t).bind acells = some z) (he : ETag me n t (0, 0) 0 z.length) :
 ∃ m' w' r, (Instr.alloc t true (.tuple #[])).run P w = .ok r w' ∧ Step ng ro base w0 m A w m' (A.newAt n0 (.cells z n)) w' ∧ VRel m' (.pointer (some ⟨n0, 0, none⟩)) r ∧ DomOk m m' n0 := by
 cases hzz : tZero P t with
 | none => rw [hzz] at hz; cases hz
 | some v =>
   rw [hzz] at hz
   obtain ⟨h1, h2⟩ := run_zero hzz w
   obtain ⟨m', w', r, h3, h4, h5⟩ := box_ok hf hr (P := P) (t := t) (n := n) hS (VRel.ground m h2) hz he
   refine ⟨m', w', r, ?_, h4, h5⟩
   simp only [Instr.box, Sem.run_bind] at h3
   simp only [Instr.alloc, Sem.run_bind, h1, Result.andThen_ok]
   exact h3
theorem tPlaces_und {t : TypeId} {ps : List (Nat × Nat)} (h : tPlaces P t = some ps) : ∃ fs, P.underlying t = some (.struct fs) ∧ fs.toList.mapM (fun f => (P.info? f.type).map fun i => (f.offset, i.size)) = some ps := by
 unfold tPlaces at h
 split at h
 ·rename_i fs hu
  refine ⟨fs, hu, ?_⟩
  rw [← h]
  congr 1
  funext f
  simp [tSize, Option.map_map, Function.comp_def]
 ·cases h
def PRel (m : Emb) (ps : List (Nat × Value)) (ps' : List (Nat × Value)) : Prop :=
 ps.length = ps'.length ∧ ∀ (i j : Nat) (v : Value), ps[i]? = some (j, v) → ∃ v', ps'[i]? = some (j, v') ∧ VRel m v v'
theorem build_ok {t : TypeId} {parts parts' : List (Nat × Value)} {ps : List (Nat × Nat)} {z cs : List Value} (hps : tPlaces P t = some ps) (hz : (tZero P t).bind acells = some z) (hp : PRel m parts parts')
 (h : aFill ps z parts = some cs) (w : World) : ∃ r, (Instr.build t parts'.toArray).run P w = .ok r w ∧ VRel m (.agg cs.toArray) r := by
 obtain ⟨fs, hu, hfs⟩ := tPlaces_und hps
 cases hzz : tZero P t with
 | none => rw [hzz] at hz; cases hz
 | some v =>
   rw [hzz] at hz
   obtain ⟨h1, h2⟩ := run_zero hzz w
   obtain ⟨h3, h4⟩ := ground_cells h2 hz
   have h5 : VRels m z v.cells.toList := by rw [h3]; exact VRels.ground1 m h4
   obtain ⟨out', g1, g2, g3⟩ := fill_ok (m := m) (places := fun i => ps[i]?) (fun i x hx => hx) parts parts' z v.cells cs hp.1 hp.2 h5 (fun u hu => ground1_oneCell (h4 u hu)) h
   refine ⟨.agg out', ?_, .agg _ _ (by simpa using g2) (by simpa using g3)⟩
   refine run_build (P := P) w t parts'.toArray out' ?_
   unfold tZero at hzz
   cases hi : P.info? t with
   | none => rw [hi] at hzz; cases hzz
   | some i =>
     rw [hi] at hzz
     cases hzi : i.zero with
     | none => simp [hzi] at hzz
     | some z0 =>
       simp only [Option.bind_some, hzi] at hzz
       split at hzz
       ·cases hzz
        simp only [Program.built, hi, hu, hzi, hfs]
        simpa using g1
       ·cases hzz
theorem repeat_zero {z : List Value} {n : Nat} : (Array.range (n * z.length)).map (fun i => z.toArray[i % z.toArray.size]!) = (List.replicate n z).flatten.toArray := by
 apply Array.ext'
 rw [Array.toList_map, Array.toList_range]
 apply List.ext_getElem?
 intro i
 rw [List.getElem?_map]
 by_cases hi : i < n * z.length
 ·have hz : 0 < z.length := by
   rcases Nat.eq_zero_or_pos z.length with h | h
   ·rw [h] at hi; omega
   ·exact h
  have hm : i % z.length < z.length := Nat.mod_lt _ hz
  rw [List.getElem?_range hi]
  simp only [Option.map_some]
  have key : ∀ (n i : Nat), i < n * z.length → (List.replicate n z).flatten[i]? = z[i % z.length]? := by
   intro n
   induction n with
   | zero => intro i hi; omega
   | succ n ih =>
     intro i hi
     rw [List.replicate_succ, List.flatten_cons]
     by_cases h : i < z.length
     ·rw [List.getElem?_append_left h, Nat.mod_eq_of_lt h]
     ·have e1 : (n + 1) * z.length = n * z.length + z.length := by rw [Nat.add_mul]; omega
      have e2 : i % z.length = (i - z.length) % z.length := Nat.mod_eq_sub_mod (by omega)
      rw [List.getElem?_append_right (by omega), ih (i - z.length) (by omega), e2]
  have hk := key n i hi
  simp only [hk, List.size_toArray]
  rw [List.getElem?_eq_getElem hm]
  simp [hm]
 ·have h1 : (List.range (n * z.length))[i]? = none := List.getElem?_eq_none (by simp; omega)
  have h2 : (List.replicate n z).flatten[i]? = none := List.getElem?_eq_none (by simp; omega)
  simp [h1, h2]
include hf hr in
theorem buildSlice_ok (hS : Sim ng ro base w0 m A w) {t el : TypeId} {n sz : Nat} {parts parts' : List (Nat × Value)} {z cs : List Value} (he : tElem P t = some el) (hs : tElemSize P t = some sz)
 (hz : (tZero P el).bind acells = some z) (hl : n * sz ≤ 16777216 ∧ z.length = sz ∧ n ≤ 16777216) (hp : PRel m parts parts')
 (h : aFill ((List.range n).map fun i => (i * sz, sz)) (List.replicate n z).flatten parts = some cs) :
 ∃ m' w' r, (Instr.buildSlice t n parts'.toArray).run P w = .ok r w' ∧ Step ng ro base w0 m A w m' (A.newAt n0 (.cells cs sz)) w' ∧ VRel m' (.slice (some ⟨n0, 0, none⟩) n n) r ∧ DomOk m m' n0 := by
 obtain ⟨el', i, he', hu, hi, hsz, _⟩ := tElemSize_und hs
 rw [he] at he'; cases he'
 cases hzz : tZero P el with
 | none => rw [hzz] at hz; cases hz
 | some v =>
   rw [hzz] at hz
   obtain ⟨h1, h2⟩ := run_zero hzz w
   obtain ⟨h3, h4⟩ := ground_cells h2 hz
   have hflat : ∀ u ∈ (List.replicate n z).flatten, ground1 u = true := by
    intro u hu
    obtain ⟨l, hl1, hl2⟩ := List.mem_flatten.1 hu
    obtain ⟨_, rfl⟩ := List.mem_replicate.1 hl1
    exact h4 u hl2
   obtain ⟨out', g1, g2, g3⟩ := fill_ok (m := m) (places := fun i => some (i * sz, sz)) (ps := (List.range n).map fun i => (i * sz, sz)) (fun j x hx => by
    rw [List.getElem?_map] at hx
    rcases Nat.lt_or_ge j n with hj | hj
    ·rw [List.getElem?_range hj] at hx; simpa using hx
    ·rw [List.getElem?_eq_none (by simpa using hj)] at hx; cases hx) parts parts' (List.replicate n z).flatten (List.replicate n z).flatten.toArray cs hp.1 hp.2 (VRels.ground1 m hflat)
    (fun u hu => ground1_oneCell (hflat u hu)) h
   obtain ⟨w', h5, h6⟩ := newRow_ok hf hr (P := P) (e := sz) (el := el) hS g2 g3 (.of (tElemSize_lt hs))
   refine ⟨_, w', .slice (some ⟨w.heap.size, 0, none⟩) n n, ?_, h6, ?_, .add⟩
   ·have hv : v.cells = z.toArray := by rw [← h3]
    simp only [Instr.buildSlice, Sem.run_bind, run_und hu, Result.andThen_ok, run_sizeI hi, Sem.run_ite, hsz, Sem.run_pure]
    by_cases h0 : n * sz = 0
    ·have h00 : (List.replicate n z).flatten = [] := by
      apply List.eq_nil_of_length_eq_zero
      simp [hl.2.1, h0]
     rw [h00] at g1
     simp only [h0, if_true]
     have : Array.map (fun x => (#[] : Array Value)[x % (#[] : Array Value).size]!) (Array.range 0) = [].toArray := by simp
     rw [this, g1]
     simp [h5]
    ·simp only [if_neg h0, h1, Result.andThen_ok, hv]
     rw [show n * sz = n * z.length by rw [hl.2.1], repeat_zero, g1]
     have hl1 : n * z.length ≤ 16777216 := by rw [hl.2.1]; exact hl.1
     simp [h5, hl1]
   ·have hb : n < BIG := by have := hl.2.2; unfold BIG; omega
    have := VRel.slExact (m := m.add n0 w.heap.size 0 cs.length sz) n0 0 n n Emb.add_dom hb (Nat.le_refl _)
    simpa using this
end
end Go.AM
namespace Go.AM
open Go Go.RowKit
section
variable {P : Program} {ng ro base : Nat} {w0 : World} {m : Emb} {A : AH} {w : World} {n0 : Nat} (hf : ¬ m.dom n0) (hr : ro ≤ n0)
theorem i64_small {n : Int} (h0 : 0 ≤ n) (h1 : n < 9223372036854775808) : IntKind.i64.wrap n = n := IntWalk.i64_in n (by omega)
include hf hr in
theorem makeSlice_ok (hS : Sim ng ro base w0 m A w) {t : TypeId} {l c l' c' v : Value} {A1 : AH} (hl : VRel m l l') (hc : VRel m c c') (h : aMakeSlice P n0 A t l c = some (v, A1)) :
 ∃ m' w' r, (Instr.makeSlice t l' c').run P w = .ok r w' ∧ Step ng ro base w0 m A w m' A1 w' ∧ VRel m' v r ∧ DomOk m m' n0 := by
 unfold aMakeSlice at h
 split at h
 ·rename_i el sz k n k' n' he hs
  obtain rfl := hl.int_l
  obtain rfl := hc.int_l
  split at h
  ·rename_i z hz
   split at h
   ·rename_i hn
    obtain ⟨h0, rfl, hlim, hzl⟩ := hn
    cases h
    obtain ⟨el', i, he', hu, hi, rfl, hb⟩ := tElemSize_und hs
    rw [he] at he'; cases he'
    cases hzz : tZero P el with
    | none => rw [hzz] at hz; cases hz
    | some zv =>
      rw [hzz] at hz
      obtain ⟨h1, h2⟩ := run_zero hzz w
      obtain ⟨h3, h4⟩ := ground_cells h2 hz
      have hflat : ∀ u ∈ (List.replicate n.toNat z).flatten, ground1 u = true := by
       intro u hu
       obtain ⟨l, hl1, hl2⟩ := List.mem_flatten.1 hu
       obtain ⟨_, rfl⟩ := List.mem_replicate.1 hl1
       exact h4 u hl2
      obtain ⟨w', h5, h6⟩ := newRow_ok hf hr (P := P) (e := i.size) (el := el) hS (VRels.ground1 m hflat) (fun u hu => ground1_oneCell (hflat u hu)) (.of (tElemSize_lt hs))
      refine ⟨_, w', .slice (some ⟨w.heap.size, 0, none⟩) n.toNat n.toNat, ?_, h6, ?_, .add⟩
      ·have hv : zv.cells = z.toArray := by rw [← h3]
       have hcells : (Array.range (n.toNat * i.size)).map (fun j => (if n.toNat * i.size = 0 then (#[] : Array Value) else zv.cells)[j % (if n.toNat * i.size = 0 then (#[] : Array Value) else zv.cells).size]!) = (List.replicate n.toNat z).flatten.toArray := by
        by_cases hz0 : n.toNat * i.size = 0
        ·have : (List.replicate n.toNat z).flatten = [] := by
          apply List.eq_nil_of_length_eq_zero
          simp [hzl, hz0]
         rw [this, hz0]; simp
        ·rw [if_neg hz0, hv, ← hzl]; exact repeat_zero
       have hbig : ¬ ((i.bytes : Int) * n > 2 ^ 48) := by
        have : (i.bytes : Int) * n ≤ 4096 * n := Int.mul_le_mul_of_nonneg_right (by omega) h0
        unfold LIM at hlim
        omega
       have hneg : ¬ (n < 0) := by omega
       have hw : IntKind.i64.wrap n = n := i64_small h0 (by unfold LIM at hlim; omega)
       simp only [Instr.makeSlice, Sem.run_bind, run_und hu, Result.andThen_ok, asInt, asIntOf, Sem.run_pure, run_infoI hi, hw, hneg, hbig, Int.lt_irrefl, decide_false, Bool.or_false, Bool.false_eq_true, if_false,
        run_askRoom, run_sizeI hi, Sem.run_ite, gt_iff_lt]
       by_cases hz0 : n.toNat * i.size = 0
       ·simp only [hz0, if_true] at hcells
        simp only [hz0, if_true, hcells, h5, Result.andThen_ok]
       ·simp only [if_neg hz0] at hcells
        simp only [if_neg hz0, h1, Result.andThen_ok, hcells, h5]
      ·have hb' : n.toNat < BIG := by unfold LIM at hlim; unfold BIG; omega
       have := VRel.slExact (m := m.add n0 w.heap.size 0 (List.replicate n.toNat z).flatten.length i.size) n0 0 n.toNat n.toNat Emb.add_dom hb' (Nat.le_refl _)
       simpa using this
   ·cases h
  ·cases h
 ·cases h
end
end Go.AM
namespace Go.AM
open Go Go.RowKit
section
variable {P : Program} {ng ro base : Nat} {w0 : World} {m : Emb} {A : AH} {w : World} {n0 : Nat} (hf : ¬ m.dom n0) (hr : ro ≤ n0)
theorem strOf_ints {m : Emb} : ∀ {cs cs' : List Value} {l : List UInt8}, VRels m cs cs' → strOf cs = some l → ∃ ns : List Int, cs' = ns.map (Value.int .u8) ∧ l = ns.map fun n => UInt8.ofNat n.toNat
 | _, _, _, .nil, h => by cases h; exact ⟨[], rfl, rfl⟩
 | _, _, l, .cons v v' c c' hv k, h => by
   unfold strOf at h
   split at h
   ·rename_i he; cases he
   ·rename_i n r he
    cases he
    obtain ⟨l', hl, rfl⟩ := Option.map_eq_some_iff.1 h
    obtain ⟨ns, rfl, rfl⟩ := strOf_ints k hl
    obtain rfl := hv.int_l
    exact ⟨n :: ns, rfl, rfl⟩
   ·cases h
theorem foldl_push (ns : List Int) : ∀ (s : ByteArray), ns.foldl (fun r n => r.push (UInt8.ofNat n.toNat)) s = ⟨s.data ++ (ns.map fun n => UInt8.ofNat n.toNat).toArray⟩ := by
 induction ns with
 | nil => intro s; simp
 | cons n ns ih =>
   intro s
   rw [List.foldl_cons, ih]
   congr 1
   apply Array.ext'
   simp [ByteArray.push]
theorem tBytes_und {t : TypeId} (h : tBytes P t = true) : ∃ e, P.underlying t = some (.slice e) ∧ P.underlying e = some (.int .u8) := by
 unfold tBytes at h
 split at h
 ·rename_i e he
  exact ⟨e, tElem_und he, tKind_int (by simpa using h)⟩
 ·cases h
theorem VRels_bytes (m : Emb) (s : ByteArray) : VRels m (bytesOf s) (bytesOf s) := by
 apply VRels.ground1
 intro v hv
 obtain ⟨b, _, rfl⟩ := List.mem_map.1 hv
 rfl
theorem bytesOf_length (s : ByteArray) : (bytesOf s).length = s.size := by simp [bytesOf]
theorem bytesOf_oneCell (s : ByteArray) : ∀ v ∈ bytesOf s, v.oneCell' = true := by
 intro v hv
 obtain ⟨b, _, rfl⟩ := List.mem_map.1 hv
 rfl
include hf hr in
theorem stringToBytes_ok (hS : Sim ng ro base w0 m A w) (e : TypeId) (s : ByteArray) :
 ∃ m' w' r, (Conv.stringToBytes e s).run P w = .ok r w' ∧ Step ng ro base w0 m A w m' (A.newAt n0 (.cells (bytesOf s) 1)) w' ∧ VRel m' (.slice (some ⟨n0, 0, none⟩) s.size BIG) r ∧ DomOk m m' n0 := by
 let q := Question.appendCap s.size 0 e
 let cap := q.cut (w.tape w.drawn q)
 have hcap : s.size ≤ cap := Nat.le_add_right _ _
 let C : Array Value := (s.data.map fun (b : UInt8) => Value.int .u8 b.toNat) ++ Array.replicate (cap - s.size) (Value.int .u8 0)
 have hC : C.size = cap := by
  show ((s.data.map fun (b : UInt8) => Value.int .u8 b.toNat) ++ Array.replicate (cap - s.size) (Value.int .u8 0)).size = cap
  have : s.data.size = s.size := rfl
  simp; omega
 let w' : World := { w with heap := w.heap.push (.cells C e (cap, cap + 1)), drawn := w.drawn + 1 }
 have hstep := Step.new hf hr (e := 1) (me := 1) (he := .of (by decide)) (c := bytesOf s) (c' := C) (el := e) (fz := (cap, cap + 1)) hS (w' := w') rfl rfl rfl rfl (by rw [bytesOf_length, hC]; exact hcap) (by
  intro i v hv
  have hi : i < s.size := by
   rcases Nat.lt_or_ge i (bytesOf s).length with h | h
   ·rwa [bytesOf_length] at h
   ·rw [List.getElem?_eq_none h] at hv; cases hv
  refine ⟨bytesOf_oneCell s v (List.mem_of_getElem? hv), v, ?_, ?_⟩
  ·have hi' : i < s.data.size := hi
   show ((s.data.map fun (b : UInt8) => Value.int .u8 b.toNat) ++ Array.replicate (cap - s.size) (Value.int .u8 0))[0 + i]? = some v
   rw [Nat.zero_add, Array.getElem?_append_left (by simpa using hi')]
   simpa [bytesOf] using hv
  ·obtain ⟨b, _, rfl⟩ := List.mem_map.1 (List.mem_of_getElem? hv)
   exact .int _ _) (by rw [hC]; exact freeRow_end)
 refine ⟨_, w', .slice (some ⟨w.heap.size, 0, none⟩) s.size cap, ?_, hstep, ?_, .add⟩
 ·have hfz : q.forced = false := rfl
  simp only [Conv.stringToBytes, Sem.run_bind, run_choose]
  rw [show (Question.appendCap s.size 0 e).forced = false from rfl]
  simp only [Bool.false_eq_true, if_false, Result.andThen_ok, newRow, run_newObj, Sem.run_bind, Sem.run_pure, markStringish, run_shape]
  have hsh : (World.shape? { w with heap := w.heap.push (.cells C e (0, 0)), drawn := w.drawn + 1 } w.heap.size) = some (e, cap) := by
   simp [World.shape?, hC]
  have : World.shape? { heap := w.heap.push (Obj.cells ((s.data.map fun (b : UInt8) => Value.int .u8 b.toNat) ++ Array.replicate (cap - s.size) (Value.int .u8 0)) e), tape := w.tape, drawn := w.drawn + 1, os := w.os, output := w.output } w.heap.size = some (e, cap) := hsh
  erw [this]
  simp only [run_freeze, Result.andThen_ok]
  congr 1
  simp only [World.freeze]
  rw [if_neg (by omega)]
  show _ = ({ w with heap := w.heap.push (.cells C e (cap, cap + 1)), drawn := w.drawn + 1 } : World)
  congr 1
  apply Array.ext_getElem?
  intro k
  rw [Array.getElem?_modify, Array.getElem?_push, Array.getElem?_push]
  by_cases hk : k = w.heap.size
  ·subst hk; simp; rfl
  ·rw [if_neg (fun e => hk e.symm), if_neg hk, if_neg hk]
 ·have := VRel.slBig (m := m.add n0 w.heap.size 0 C.size 1) n0 0 s.size cap Emb.add_dom hcap (by simp [hC])
  simpa using this
include hf hr in
theorem convert_ok (hS : Sim ng ro base w0 m A w) {s d : TypeId} {x x' v : Value} {A1 : AH} (hx : VRel m x x') (h : aConvert P n0 A s d x = some (v, A1)) :
 ∃ m' w' r, (convert s d x').run P w = .ok r w' ∧ Step ng ro base w0 m A w m' A1 w' ∧ VRel m' v r ∧ DomOk m m' n0 := by
 unfold aConvert at h
 split at h
 ·rename_i k k' q n h1 h2
  cases h
  obtain rfl := hx.int_l
  exact ⟨m, w, _, by simp [convert, run_und (tKind_int h1), run_und (tKind_int h2), Conv.intToInt], .refl hS, .int _ _, .refl⟩
 ·rename_i q h1 h2
  cases h
  obtain rfl := hx.str_l
  exact ⟨m, w, _, by simp [convert, run_und (tKind_str h1), run_und (tKind_str h2)], .refl hS, .string _, .refl⟩
 ·rename_i q h1 h2
  split at h
  ·rename_i hb
   cases h
   obtain rfl := hx.str_l
   obtain ⟨e, hu, he⟩ := tBytes_und hb
   obtain ⟨m', w', r, h3, h4, h5⟩ := stringToBytes_ok hf hr (P := P) hS e q
   exact ⟨m', w', r, by simp [convert, run_und (tKind_str h1), run_und hu, run_und he, h3], h4, h5⟩
  ·cases h
 ·rename_i q c h1 h2
  split at h
  ·rename_i hb
   cases h
   obtain ⟨e, hu, he⟩ := tBytes_und hb
   cases hx
   exact ⟨m, w, _, by rw [run_convert_bytes_string w s d e none 0 0 hu he (tKind_str h2)]; simp [Conv.bytesToString], .refl hS, .string _, .refl⟩
  ·cases h
 ·rename_i a n c h1 h2
  split at h
  ·rename_i hb
   obtain ⟨e, hu, he⟩ := tBytes_und hb
   split at h
   ·rename_i hn
    subst hn
    cases h
    have key : ∀ (a' : Addr) (c' : Nat), (convert s d (.slice (some a') 0 c')).run P w = .ok (.string .empty) w := by
     intro a' c'
     rw [run_convert_bytes_string w s d e (some a') 0 c' hu he (tKind_str h2)]
     have := run_bytesToString (P := P) w a' 0 c' [] rfl
     simpa using this
    cases hx <;> exact ⟨m, w, _, key _ _, .refl hS, .string _, .refl⟩
   ·rename_i hn
    split at h
    ·rename_i cs hcs
     obtain ⟨l, hl, hv⟩ := Option.map_eq_some_iff.1 h
     cases hv
     have key : ∀ (b o c' : Nat), a = ⟨b, o, none⟩ → (convert s d (.slice (some ⟨m.r b, m.s b + o, none⟩) n c')).run P w = .ok (.string ⟨l.toArray⟩) w := by
      rintro b o c' rfl
      obtain ⟨_, cs', g1, g2, _⟩ := row_ok (P := P) hS hcs
      obtain ⟨ns, rfl, rfl⟩ := strOf_ints g2 hl
      rw [run_convert_bytes_string w s d e _ n c' hu he (tKind_str h2), run_bytesToString (P := P) w _ n c' ns (g1 w rfl), foldl_push]
      simp
     cases hx with
     | slEmpty p p' c hc hd0 => exact absurd rfl hn
     | slExact b o n c hd hc hn' => exact ⟨m, w, _, key b o _ rfl, .refl hS, .string _, .refl⟩
     | slBig b o n c hd hn' hk => exact ⟨m, w, _, key b o _ rfl, .refl hS, .string _, .refl⟩
    ·cases h
  ·cases h
 ·cases h
end
end Go.AM
namespace Go.AM
open Go Go.RowKit
section
variable {P : Program} {ng ro base : Nat} {w0 : World} {m : Emb} {A : AH} {w : World}
theorem Step.kill (h : Sim ng ro base w0 m A w) (b : Nat) : Step ng ro base w0 m A w m (A.put b .dead) w := by
 have hl : ∀ x o, (A.put b .dead).get x = o → o ≠ .dead → A.get x = o := fun x o hx ho => by
  by_cases hxb : x = b
  ·subst hxb; rw [AH.get_put] at hx; exact absurd hx.symm ho
  ·rwa [AH.get_put_ne hxb] at hx
 have hlive : ∀ x, (A.put b .dead).get x ≠ .dead → A.get x ≠ .dead := fun x hx => by
  have := hl x _ rfl hx
  rw [this]; exact hx
 refine ⟨.refl m, ?_, Nat.le_refl _, Nat.le_refl _, fun _ _ _ => rfl, fun x hx => .inl ⟨x, hlive x hx, rfl⟩⟩
 exact ⟨h.glob, h.dlt, fun x c e hx => h.cells x c e (hl x _ hx (by simp)), fun x es hx => h.maps x es (hl x _ hx (by simp)), fun x hx => h.rw x (hlive x hx),
  fun x y hx hy => h.inj x y (hlive x hx) (hlive y hy), fun x hx => h.lo x (hlive x hx), h.bl, h.rl, h.old⟩
theorem source_ok (hS : Sim ng ro base w0 m A w) {sz n : Nat} {x x' : Value} {new : List Value} (hx : VRel m x x') (h : aSource A sz x = some (n, new)) :
 (∀ w, (Builtin.lenOf x').run P w = .ok n w) ∧ new.length = n * sz ∧ ∃ new', (∀ w1 : World, w1.heap = w.heap → (Builtin.firstCells sz n x').run P w1 = .ok new'.toArray w1) ∧ VRels m new new' ∧ ∀ v ∈ new, v.oneCell' = true := by
 unfold aSource at h
 split at h
 ·cases h
  cases hx
  exact ⟨fun _ => rfl, by simp, [], fun _ _ => rfl, .nil, by simp⟩
 ·rename_i b k c
  split at h
  ·rename_i hk
   subst hk
   cases h
   cases hx <;> exact ⟨fun _ => rfl, by simp, [], fun _ _ => by simp [Builtin.firstCells, loadCells, loadCellsFrom], .nil, by simp⟩
  ·rename_i hk
   obtain ⟨cs, hcs, he⟩ := Option.map_eq_some_iff.1 h
   cases he
   cases hx with
   | slEmpty p p' c hc hd0 => exact absurd rfl hk
   | slExact b o n c hd hc hn =>
     obtain ⟨g0, cs', g1, g2, g3⟩ := row_ok (P := P) hS hcs
     exact ⟨fun _ => rfl, g0, cs', g1, g2, g3⟩
   | slBig b o n c hd hn hkk =>
     obtain ⟨g0, cs', g1, g2, g3⟩ := row_ok (P := P) hS hcs
     exact ⟨fun _ => rfl, g0, cs', g1, g2, g3⟩
 ·rename_i s
  split at h
  ·rename_i hsz
   subst hsz
   cases h
   obtain rfl := hx.str_l
   refine ⟨fun _ => rfl, by rw [bytesOf_length]; omega, bytesOf s, fun w1 _ => ?_, VRels_bytes m s, bytesOf_oneCell s⟩
   have he : s.extract 0 s.size = s := by
    apply ByteArray.ext
    rw [ByteArray.data_extract]
    exact Array.extract_size
   simp only [Builtin.firstCells, he, Sem.run_pure]
   congr 1
   apply Array.ext'
   simp [bytesOf]
  ·cases h
 ·cases h
theorem cap_bound {need c : Nat} (h : c < need) : Builtin.nextslicecap need c ≤ 2 * need + 192 := by
 unfold Builtin.nextslicecap
 split
 ·omega
 ·split
  ·omega
  ·have key : ∀ (r c : Nat), c < need + need / 4 + 193 → Builtin.growBy need r c ≤ 2 * need + 192 := by
    intro r
    induction r with
    | zero => intro c h; unfold Builtin.growBy; omega
    | succ r ih =>
      intro c h
      unfold Builtin.growBy
      split
      ·omega
      ·exact ih _ (by omega)
   exact key 4 c (by omega)
theorem grow_ok (hS : Sim ng ro base w0 m A w) {t t2 ty el : TypeId} {i : TypeInfo} {z : List Value} {len n cap e : Nat} (he : ∀ k, ETag i.size e el (0, 0) 0 k) {bs : Option Addr} {x' : Value} {old old' new new' : List Value} {d2 : TypeDesc}
 (hu : P.underlying t = some (.slice el)) (hi : P.info? el = some i) (hb : i.bytes ≤ 4096) (hz : (tZero P el).bind acells = some z) (hzl : z.length = i.size)
 (hu2 : P.underlying t2 = some d2) (hd2 : ∀ k, d2 ≠ .int k)
 (hlim : len + n < LIM) (hcap : ¬ len + n ≤ cap) (hlen : ∀ w, (Builtin.lenOf x').run P w = .ok n w)
 (hold : ∀ w1 : World, w1.heap = w.heap → (Builtin.firstCells i.size len (.slice bs len cap)).run P w1 = .ok old'.toArray w1) (hnew : ∀ w1 : World, w1.heap = w.heap → (Builtin.firstCells i.size n x').run P w1 = .ok new'.toArray w1)
 (ro1 : VRels m old old') (ro2 : ∀ v ∈ old, v.oneCell' = true) (rn1 : VRels m new new') (rn2 : ∀ v ∈ new, v.oneCell' = true) (lo : old.length = len * i.size) (ln : new.length = n * i.size) :
 ∃ m' w' r, (Builtin.append_ #[t, t2] ty #[.slice bs len cap, x']).run P w = .ok r w' ∧ Step ng ro base w0 m A w m' (A.new (.cells (old ++ new) e)) w' ∧ VRel m' (.slice (some ⟨A.size, 0, none⟩) (len + n) BIG) r ∧ DomOk m m' A.size := by
 cases hzz : tZero P el with
 | none => rw [hzz] at hz; cases hz
 | some zv =>
 rw [hzz] at hz
 obtain ⟨h1, h2⟩ := run_zero hzz w
 obtain ⟨h3, h4⟩ := ground_cells h2 hz
 have hzv : zv.cells = z.toArray := by rw [← h3]
 let q := Question.appendCap (len + n) cap el
 let nc := q.cut (w.tape w.drawn q)
 have hnc : len + n ≤ nc := Nat.le_add_right _ _
 let rest := Builtin.zeroCells z.toArray (nc - (len + n))
 have hrest : rest.size = (nc - (len + n)) * i.size := by simp [rest, Builtin.zeroCells, hzl]
 let C : Array Value := old'.toArray ++ new'.toArray ++ rest
 have lo' : old'.length = len * i.size := by rw [← ro1.length]; exact lo
 have ln' : new'.length = n * i.size := by rw [← rn1.length]; exact ln
 have hC : C.size = nc * i.size := by
  simp only [C, Array.size_append, List.size_toArray, lo', ln', hrest]
  rw [← Nat.add_mul, ← Nat.add_mul]
  congr 1; omega
 let w' : World := { w with heap := w.heap.push (.cells C el), drawn := w.drawn + 1 }
 have hstep := Step.new hS.fresh hS.rl (e := e) (he := he _) (c := old ++ new) (c' := C) (el := el) (fz := (0, 0)) hS (w' := w') rfl rfl rfl rfl (by
  rw [hC, List.length_append, lo, ln, ← Nat.add_mul]; exact Nat.mul_le_mul_right _ hnc) (by
  intro j v hv
  obtain ⟨v', hv', hr⟩ := (ro1.append rn1).get hv
  refine ⟨?_, v', ?_, hr⟩
  ·rcases List.mem_append.1 (List.mem_of_getElem? hv) with h | h
   ·exact ro2 v h
   ·exact rn2 v h
  ·rw [Nat.zero_add]
   have hj : j < (old'.toArray ++ new'.toArray).size := by
    rcases Nat.lt_or_ge j (old' ++ new').length with h | h
    ·simpa using h
    ·rw [List.getElem?_eq_none h] at hv'; cases hv'
   rw [Array.getElem?_append_left hj]
   simpa using hv') freeRow_zero
 rw [AH.newAt_self] at hstep
 refine ⟨_, w', .slice (some ⟨w.heap.size, 0, none⟩) (len + n) nc, ?_, hstep, ?_, .add⟩
 ·have hgrow := cap_bound (need := len + n) (c := cap) (by omega)
  have hroom : ¬ (Builtin.nextslicecap (len + n) cap * i.bytes > 2 ^ 48) := by
   have : Builtin.nextslicecap (len + n) cap * i.bytes ≤ (2 * (len + n) + 192) * 4096 := Nat.mul_le_mul hgrow hb
   unfold LIM at hlim
   omega
  have hmax : ¬ (((len + n : Nat) : Int) > IntKind.i64.max ∧ i.bytes = 0) := by
   rintro ⟨h, _⟩
   simp only [IntKind.max, IntKind.bits, IntKind.signed, if_true] at h
   unfold LIM at hlim
   omega
  have hw1 : ({ w with drawn := w.drawn + 1 } : World).heap = w.heap := rfl
  simp only [Builtin.append_, List.getElem?_toArray, List.getElem?_cons_zero, List.getElem?_cons_succ, Sem.run_bind, run_und hu, Result.andThen_ok, run_sizeI hi, run_und hu2, hlen, run_infoI hi, Sem.run_pure, if_neg hcap,
   Bool.false_eq_true, if_false, Sem.run_ite, false_or, hroom]
  have hz1 := (run_zero hzz { w with drawn := w.drawn + 1 }).1
  rw [if_neg hmax]
  simp only [run_choose, show (Question.appendCap (len + n) cap el).forced = false from rfl, Bool.false_eq_true, if_false, Result.andThen_ok, run_askRoom, hold { w with drawn := w.drawn + 1 } rfl, Bool.not_false, if_true,
   hnew { w with drawn := w.drawn + 1 } rfl, hz1, newRow, run_newObj, Sem.run_bind, Sem.run_pure, hzv]
  rfl
 ·have hb2 := VRel.slBig (m := m.add A.size w.heap.size 0 C.size i.size) A.size 0 (len + n) nc Emb.add_dom hnc (by simp [hC])
  simpa using hb2
theorem firstCells_zero {sz : Nat} {a : Option Addr} {c : Nat} (w1 : World) : (Builtin.firstCells sz 0 (.slice a 0 c)).run P w1 = .ok ([] : List Value).toArray w1 := by
 cases a <;> simp [Builtin.firstCells, loadCells, loadCellsFrom]
theorem fits_run {t t2 ty el : TypeId} {i : TypeInfo} {len n cap : Nat} {bs : Option Addr} {x' : Value} {new' : List Value} {d2 : TypeDesc} {w' : World}
 (hu : P.underlying t = some (.slice el)) (hi : P.info? el = some i) (hu2 : P.underlying t2 = some d2) (hd2 : ∀ k, d2 ≠ .int k) (hcap : len + n ≤ cap) (hlen : ∀ w, (Builtin.lenOf x').run P w = .ok n w)
 (hnew : (Builtin.firstCells i.size n x').run P w = .ok new'.toArray w) (hst : ∀ a, bs = some a → (storeCells (a.add (len * i.size)) new').run P w = .ok () w') (hn : bs = none → w' = w) :
 (Builtin.append_ #[t, t2] ty #[.slice bs len cap, x']).run P w = .ok (.slice bs (len + n) cap) w' := by
 have hzeros : (match d2 with | .int _ => true | _ => false) = false := by cases d2 <;> first | rfl | exact absurd rfl (hd2 _)
 simp only [Builtin.append_, List.getElem?_toArray, List.getElem?_cons_zero, List.getElem?_cons_succ, Sem.run_bind, run_und hu, Result.andThen_ok, run_sizeI hi, run_und hu2, hlen, Sem.run_pure, if_pos hcap,
  Bool.false_eq_true, if_false, Sem.run_ite]
 simp only [Bool.not_false, if_true, hnew, Result.andThen_ok]
 cases bs with
 | none => simp [hn rfl]
 | some a => simp [hst a rfl]
theorem append_ok (hS : Sim ng ro base w0 m A w) {t t2 ty : TypeId} {s s' x x' v : Value} {A1 : AH} (hk : tKind P t2 = some .slice ∨ tKind P t2 = some .str) (hs : VRel m s s') (hx : VRel m x x')
 (h : aAppend P ro A t s x = some (v, A1)) : ∃ m' w' r, (Builtin.append_ #[t, t2] ty #[s', x']).run P w = .ok r w' ∧ Step ng ro base w0 m A w m' A1 w' ∧ VRel m' v r ∧ DomOk m m' A.size := by
 obtain ⟨d2, hu2, hd2⟩ : ∃ d2, P.underlying t2 = some d2 ∧ ∀ k, d2 ≠ .int k := by
  rcases hk with hk | hk
  ·obtain ⟨e, he⟩ := tKind_slice hk; exact ⟨_, he, by simp⟩
  ·exact ⟨_, tKind_str hk, by simp⟩
 unfold aAppend at h
 split at h
 ·rename_i sz bs len cap hsz
  obtain ⟨el, i, z, hel, hu, hi, rfl, hb, hz, hzl⟩ := tElemSize_z hsz
  split at h
  ·rename_i n new hsrc
   obtain ⟨hlen, ln, new', hnew, rn1, rn2⟩ := source_ok (P := P) hS hx hsrc
   split at h
   ·rename_i hlim
    split at h
    ·split at h
     ·cases h
     ·rename_i hlc
      obtain ⟨rfl, rfl⟩ : len = 0 ∧ cap = 0 := by omega
      cases hs
      split at h
      ·rename_i hn
       subst hn
       cases h
       have hnil : new' = [] := by
        have := rn1.length
        rw [ln] at this
        exact List.eq_nil_of_length_eq_zero (by omega)
       subst hnil
       have := fits_run (P := P) (w := w) (w' := w) (t2 := t2) (ty := ty) (len := 0) (cap := 0) (bs := none) hu hi hu2 hd2 (Nat.le_refl _) hlen (hnew w rfl) (fun a ha => by cases ha) (fun _ => rfl)
       exact ⟨m, w, _, this, .refl hS, .slNil, .refl⟩
      ·rename_i hn
       cases h
       have hE : ∀ k, ETag i.size (appE P t i.size x) el (0, 0) 0 k := fun k => by
        cases x with
        | string s0 =>
          have h1 : i.size = 1 := by
           simp only [aSource] at hsrc
           split at hsrc
           ·assumption
           ·cases hsrc
          show ETag i.size (match tElem P t with | some el => 1099511627776 + 2 * el | none => i.size) el (0, 0) 0 k
          rw [hel, h1]
          exact ETag.tagged el rfl
        | _ => exact .of (tElemSize_lt hsz)
       obtain ⟨m', w', r, g1, g2, g3, g0⟩ := grow_ok (P := P) (ty := ty) (len := 0) (cap := 0) (bs := none) (old := []) (old' := []) (he := hE) hS hu hi hb hz hzl hu2 hd2 hlim (by omega) hlen (fun w1 _ => firstCells_zero w1) hnew .nil
        (by simp) rn1 rn2 (by simp) ln
       exact ⟨m', w', r, g1, by simpa using g2, by simpa using g3, g0⟩
    ·rename_i a
     split at h
     ·rename_i hcap
      split at h
      ·rename_i hn
       obtain ⟨rfl, hle⟩ := hn
       cases h
       have hnil : new' = [] := by
        have := rn1.length
        rw [ln] at this
        exact List.eq_nil_of_length_eq_zero (by omega)
       subst hnil
       have key : ∀ (p' : Addr), (Builtin.append_ #[t, t2] ty #[.slice (some p') len cap, x']).run P w = .ok (.slice (some p') len cap) w := fun p' =>
        fits_run (P := P) (w := w) (w' := w) (t2 := t2) (ty := ty) (bs := some p') hu hi hu2 hd2 hle hlen (hnew w rfl) (fun a ha => rfl) (fun h => by cases h)
       cases hs with
       | slEmpty p p' c hc hd0 =>
         rcases hc with rfl | rfl
         ·exact ⟨m, w, _, key p', .refl hS, .slEmpty _ _ _ (.inl rfl) (fun h => (zeroNe h).elim), .refl⟩
         ·exact absurd hcap (Nat.lt_irrefl _)
       | slExact b o n c hd hc hn => exact ⟨m, w, _, key _, .refl hS, .slExact _ _ _ _ hd hc hn, .refl⟩
       | slBig b o n c hd hn hkk => exact absurd hcap (Nat.lt_irrefl _)
      ·rename_i hn
       split at h
       ·rename_i hfit
        split at h
        ·rename_i c e hsp hg
         split at h
         ·rename_i hle
          cases h
          obtain ⟨hro, hl⟩ := hle
          cases hs with
          | slEmpty p p' c hc hd0 =>
            rcases hc with rfl | rfl
            ·exact absurd ⟨by omega, Nat.zero_le _⟩ hn
            ·exact absurd hcap (Nat.lt_irrefl _)
          | slExact b o n' c' hd hc hnc =>
            obtain ⟨w', h1, h2⟩ := write_ok (P := P) (o := o + len * i.size) (vs := new) (vs' := new') hS hg hro (by rw [ln]; exact hl) rn1 rn2
            refine ⟨m, w', _, fits_run (P := P) (w := w) (w' := w') (t2 := t2) (ty := ty) (bs := some ⟨m.r b, m.s b + o, none⟩) hu hi hu2 hd2 hfit hlen (hnew w rfl) (fun a ha => ?_) (fun h => by cases h), h2, .slExact _ _ _ _ hd hc hfit, .refl⟩
            cases ha
            rw [ptr_add, Nat.add_assoc]
            exact h1
          | slBig b o n c hd hn hkk => exact absurd hcap (Nat.lt_irrefl _)
         ·cases h
        ·cases h
       ·rename_i hgt
        split at h
        ·rename_i hl0
         subst hl0
         cases h
         have hcap' : ¬ (0 + n ≤ cap) := hgt
         have key : ∀ (p' : Addr), ∃ m' w' r, (Builtin.append_ #[t, t2] ty #[.slice (some p') 0 cap, x']).run P w = .ok r w' ∧ Step ng ro base w0 m A w m' (A.new (.cells new i.size)) w' ∧
          VRel m' (.slice (some ⟨A.size, 0, none⟩) n BIG) r ∧ DomOk m m' A.size := by
          intro p'
          obtain ⟨m', w', r, g1, g2, g3, g0⟩ := grow_ok (P := P) (ty := ty) (len := 0) (cap := cap) (bs := some p') (old := []) (old' := []) (he := fun _ => .of (tElemSize_lt hsz)) hS hu hi hb hz hzl hu2 hd2 hlim hcap' hlen (fun w1 _ => firstCells_zero w1) hnew .nil
           (by simp) rn1 rn2 (by simp) ln
          exact ⟨m', w', r, g1, by simpa using g2, by simpa using g3, g0⟩
         cases hs with
         | slEmpty p p' c hc hd0 =>
           rcases hc with rfl | rfl
           ·exact key p'
           ·exact absurd hcap (Nat.lt_irrefl _)
         | slExact b o n c hd hc hn => exact key _
         | slBig b o n c hd hn hkk => exact absurd hcap (Nat.lt_irrefl _)
        ·rename_i hl0
         split at h
         ·rename_i old hold
          cases h
          cases hs with
          | slEmpty p p' c hc hd0 => exact absurd rfl hl0
          | slExact b o n c hd hc hn =>
            obtain ⟨lo, old', g1, g2, g3⟩ := row_ok (P := P) hS hold
            exact grow_ok (P := P) (ty := ty) (bs := some _) (he := fun _ => .of (tElemSize_lt hsz)) hS hu hi hb hz hzl hu2 hd2 hlim hgt hlen g1 hnew g2 g3 rn1 rn2 lo ln
          | slBig b o n c hd hn hkk => exact absurd hcap (Nat.lt_irrefl _)
         ·cases h
     ·rename_i hcap
      split at h
      ·rename_i hbig
       obtain ⟨rfl, hro⟩ := hbig
       split at h
       ·rename_i old c e hold hg
        split at h
        ·rename_i he
         cases h
         have hlive : A.get a.block ≠ .dead := by rw [hg]; simp
         obtain ⟨hd, c', el', fz, k1, k2', k3, k4, k5, k6⟩ := hS.cells _ _ _ hg
         have hE : esz e = i.size ∧ (TAG ≤ e → TAG + 2 * el = e ∧ a.off = 0) := by
          rcases he with rfl | ⟨h1, h2, h3⟩
          ·have := tElemSize_lt hsz
           exact ⟨esz_lt this, fun h => absurd this (Nat.not_lt.2 h)⟩
          ·rw [hel] at h3
           simp only [Option.map_some, Option.some.injEq] at h3
           have h4 : TAG + 2 * el = e := h3
           exact ⟨by rw [← h4, esz_tag, h1], fun _ => ⟨h4, h2⟩⟩
         have k2 : m.e a.block = i.size := k2'.sz.trans hE.1
         have hEn : ∀ k, ETag i.size e el (0, 0) 0 k := fun k => ⟨hE.1.symm, fun h => ⟨by rw [← (hE.2 h).1]; exact (tag_even el).1.symm, rfl, rfl, fun q => by rw [← (hE.2 h).1] at q; have := (tag_even el).2; omega⟩⟩
         have hEt : ∀ s k, (TAG ≤ e → s = 0) → ETag i.size e el' fz s k := fun s k hs => ⟨hE.1.symm, fun h => ⟨(k2'.tag h).1, (k2'.tag h).2.1, hs h, fun q => by rw [← (hE.2 h).1] at q; have := (tag_even el).2; omega⟩⟩
         cases hs with
         | slEmpty p p' cc hc hd0 =>
           have hlo : old = [] := by
            unfold aRow at hold
            split at hold
            ·split at hold
             ·cases hold; simp
             ·cases hold
            ·cases hold
           subst hlo
           rcases Nat.eq_zero_or_pos n with hn0 | hn0
           ·subst hn0
            have hnil : new' = [] := by
             have := rn1.length
             rw [ln] at this
             exact List.eq_nil_of_length_eq_zero (by omega)
            subst hnil
            cases rn1
            have hrun := fits_run (P := P) (w := w) (w' := w) (t2 := t2) (ty := ty) (len := 0) (cap := 0) (bs := some p') hu hi hu2 hd2 (Nat.le_refl _) hlen (hnew w rfl) (fun a ha => rfl) (fun h => by cases h)
            have hst := Step.take (c := []) (e := e) (me := i.size) (he := hEt _ _ fun _ => rfl) (s := 0) hS hlive hro (w' := w) ⟨rfl, rfl, rfl, rfl, k1, fun _ _ => rfl⟩ (by simp) (fun j v hv => by simp at hv) (k6 hro)
            exact ⟨_, w, _, hrun, by simpa using hst, .slEmpty _ _ _ (.inr rfl) (fun _ => Emb.add_dom), .add⟩
           ·have hkill := Step.kill hS a.block
            obtain ⟨m', w', r, g1, g2, g3, g0⟩ := grow_ok (P := P) (ty := ty) (len := 0) (cap := 0) (bs := some p') (old := []) (old' := []) (he := hEn) hkill.sim hu hi hb hz hzl hu2 hd2 hlim (by omega) hlen
             (fun w1 _ => firstCells_zero w1) hnew .nil (by simp) rn1 rn2 (by simp) ln
            exact ⟨m', w', r, g1, hkill.trans (by simpa using g2), g3, g0⟩
         | slExact b o nn cc hd hc hn => exact absurd hc (Nat.lt_irrefl _)
         | slBig b o nn cap' hd hn hkk =>
           obtain ⟨lo, old', g1, g2, g3⟩ := row_ok (P := P) hS hold
           simp only at k1 k2 k3 k4 k5 k6 hg hro hlive k2'
           by_cases hfit : len + n ≤ cap'
           ·have hlen' := rn1.length
            have hbound : m.s b + (o + len * i.size) + new'.length ≤ c'.size := by
             rw [← hlen', ln, ← k3, ← hkk, k2]
             have h1 : len * i.size + n * i.size ≤ cap' * i.size := by rw [← Nat.add_mul]; exact Nat.mul_le_mul_right _ hfit
             omega
            have h1' : ∀ u ∈ new', u.oneCell' = true := by
             intro u hu'
             obtain ⟨j, hj⟩ := List.getElem?_of_mem hu'
             have hjl : j < new.length := by
              rw [hlen']
              rcases Nat.lt_or_ge j new'.length with h | h
              ·exact h
              ·rw [List.getElem?_eq_none h] at hj; cases hj
             obtain ⟨u2, hu2', hr⟩ := rn1.get (i := j) (v := new[j]) (by simp [hjl])
             rw [hj] at hu2'
             cases hu2'
             rw [hr.oneCell]
             exact rn2 _ (List.getElem_mem hjl)
            have hrun := run_storeCells_cells (P := P) (m.r b) (m.s b + o + len * i.size) new' 0 w (fun j hj => by
             rw [cell_row k1]; simp; omega) (fun j hj => by
             rw [frozen_row k1]
             have := k6 hro (m.s b + o + len * i.size + 0 + j) (by omega)
             simpa using this) h1'
            have hone := heap_setCells new' w (m.r b) (m.s b + o + len * i.size) c' el' fz k1
            have happ := fits_run (P := P) (w := w) (t2 := t2) (ty := ty) (bs := some ⟨m.r b, m.s b + o, none⟩) hu hi hu2 hd2 hfit hlen (hnew w rfl) (fun a ha => by
             cases ha; rw [ptr_add]; exact hrun) (fun h => by cases h)
            have hst := Step.take (c := old ++ new) (e := e) (me := i.size) (he := hEt _ _ fun h => by have h1 : o = 0 := (hE.2 h).2; have h2 := (k2'.tag h).2.2.1; rw [h1, h2]) (s := m.s b + o) hS hlive hro (by simpa using hone) (by
             rw [setArr_size, List.length_append, hlen', lo]; omega) (by
             intro j u hj
             by_cases hjo : j < old.length
             ·rw [List.getElem?_append_left hjo] at hj
              refine ⟨g3 u (List.mem_of_getElem? hj), ?_⟩
              have hjc : c[o + j]? = some u := by
               unfold aRow at hold
               simp only [hg] at hold
               split at hold
               ·cases hold
                rw [List.getElem?_take] at hj
                split at hj
                ·rwa [List.getElem?_drop] at hj
                ·cases hj
               ·cases hold
              obtain ⟨_, u', e1, e2⟩ := k5 _ _ hjc
              refine ⟨u', ?_, e2⟩
              rw [setArr_get _ _ _ _ (by omega), if_neg (by omega), Nat.add_assoc]
              exact e1
             ·rw [List.getElem?_append_right (by omega)] at hj
              refine ⟨rn2 u (List.mem_of_getElem? hj), ?_⟩
              obtain ⟨u', e1, e2⟩ := rn1.get hj
              have hjn : j - old.length < new'.length := by
               rcases Nat.lt_or_ge (j - old.length) new'.length with h | h
               ·exact h
               ·rw [List.getElem?_eq_none h] at e1; cases e1
              refine ⟨u', ?_, e2⟩
              rw [setArr_get _ _ _ _ (by omega), if_pos (by omega), ← e1]
              congr 1; omega) (by rw [setArr_size]; exact k6 hro)
            refine ⟨_, _, _, happ, by simpa using hst, ?_, .add⟩
            have := VRel.slBig (m := m.add A.size (m.r b) (m.s b + o) (setArr c' (m.s b + o + len * i.size) new').size i.size) A.size 0 (len + n) cap' Emb.add_dom hfit (by
             simp only [Emb.add_e, Emb.add_s, Emb.add_k, setArr_size]; rw [← k3, ← hkk, k2]; omega)
            simpa using this
           ·have hkill := Step.kill hS b
            obtain ⟨m', w', r, g4, g5, g6, g0⟩ := grow_ok (P := P) (ty := ty) (bs := some ⟨m.r b, m.s b + o, none⟩) (he := hEn) hkill.sim hu hi hb hz hzl hu2 hd2 hlim hfit hlen g1 hnew g2 g3 rn1 rn2 lo ln
            exact ⟨m', w', r, g4, hkill.trans g5, g6, g0⟩
        ·cases h
       ·cases h
      ·cases h
   ·cases h
  ·cases h
 ·cases h
end
end Go.AM
namespace Go.AM
open Go Go.RowKit
section
variable {P : Program} {ng ro base : Nat} {w0 : World} {m : Emb} {A : AH} {w : World}
theorem tMap_und {t : TypeId} {q : Kind} {e : TypeId} (h : tMap P t = some (q, e)) : ∃ kt d, P.underlying t = some (.map kt e) ∧ P.underlying kt = some d ∧ q.fits d := by
 unfold tMap at h
 split at h
 ·rename_i k e' hu
  obtain ⟨q', hq, he⟩ := Option.map_eq_some_iff.1 h
  cases he
  obtain ⟨d, hd, hf⟩ := tKind_und hq
  exact ⟨k, d, hu, hd, hf⟩
 ·cases h
theorem beq_bytes (a b : ByteArray) : (a == b) = decide (a.toList = b.toList) := by
 rw [beq_toListBytes]
 cases h : a.toList == b.toList
 ·have : ¬ a.toList = b.toList := by simpa using h
  simp [this]
 ·have : a.toList = b.toList := by simpa using h
  simp [this]
theorem keyEq_ok {q : Kind} {d : TypeDesc} {k k2 k' k2' : Value} {b : Bool} (hf : q.fits d) (h1 : VRel m k k') (h2 : VRel m k2 k2') (h : aKeyEq q k k2 = some b) : Instr.sameNow d k' k2' = some b := by
 unfold aKeyEq at h
 split at h
 ·obtain rfl := h1.int_l
  obtain rfl := h2.int_l
  obtain rfl : d = _ := hf
  split at h
  ·rename_i hk
   subst hk
   cases h
   simp [Instr.sameNow]
   rfl
  ·cases h
 ·obtain rfl := h1.str_l
  obtain rfl := h2.str_l
  obtain rfl : d = _ := hf
  cases h
  simp only [Instr.sameNow, beq_bytes]
 ·obtain rfl := h1.bool_l
  obtain rfl := h2.bool_l
  obtain rfl : d = _ := hf
  cases h
  rfl
 ·cases h
theorem find_ok {q : Kind} {d : TypeDesc} {k k' : Value} (hf : q.fits d) (hk : VRel m k k') : ∀ (es : List (Value × Value)) (es' : List MapEntry) (r : Option Value), ERel m es es' → aFind q k es = some r →
 ∀ i, ∃ r', Instr.findNow d k' es' i = some r' ∧ (match r, r' with | none, none => True | some v, some (_, v') => VRel m v v' | _, _ => False) := by
 intro es
 induction es with
 | nil =>
   intro es' r he h i
   obtain rfl : es' = [] := List.eq_nil_of_length_eq_zero he.1.symm
   cases h
   exact ⟨none, rfl, trivial⟩
 | cons kv es ih =>
   obtain ⟨k2, v2⟩ := kv
   intro es' r he h i
   cases es' with
   | nil => simp [ERel] at he
   | cons en es' =>
     obtain ⟨en', h1, h2, h3⟩ := he.2 0 k2 v2 rfl
     simp at h1
     subst h1
     have he' : ERel m es es' := ⟨by simpa using he.1, fun j a b hj => by simpa using he.2 (j + 1) a b (by simpa using hj)⟩
     unfold aFind at h
     split at h
     ·rename_i hq
      cases h
      exact ⟨some (i, en.val), by simp only [Instr.findNow, keyEq_ok hf hk h2 hq], h3⟩
     ·rename_i hq
      obtain ⟨r', g1, g2⟩ := ih es' r he' h (i + 1)
      exact ⟨r', by simp only [Instr.findNow, keyEq_ok hf hk h2 hq]; exact g1, g2⟩
     ·cases h
theorem checkKey_ok {q : Kind} {kt : TypeId} {d : TypeDesc} {k : Value} {e : Bool} (hu : P.underlying kt = some d) (hf : q.fits d) (h : aKeyOk q k = true) (w : World) : (Instr.checkKey e 10000 kt k).run P w = .ok () w := by
 show (Instr.checkKey e (9999 + 1) kt k).run P w = .ok () w
 generalize 9999 = n
 unfold aKeyOk at h
 split at h
 ·obtain rfl : d = _ := hf
  simp [Instr.checkKey, run_und hu]
 ·obtain rfl : d = _ := hf
  simp [Instr.checkKey, run_und hu]
 ·obtain rfl : d = _ := hf
  simp [Instr.checkKey, run_und hu]
 ·cases h
theorem VRel.keyOk {q : Kind} {k k' : Value} (h : VRel m k k') (hk : aKeyOk q k = true) : aKeyOk q k' = true := by
 unfold aKeyOk at hk
 split at hk
 ·obtain rfl := h.int_l; rfl
 ·obtain rfl := h.str_l; rfl
 ·obtain rfl := h.bool_l; rfl
 ·cases hk
theorem lookup_ok (hS : Sim ng ro base w0 m A w) {t : TypeId} {x k x' k' r : Value} {ok : Bool} (hx : VRel m x x') (hk : VRel m k k') (h : aLookup P A t x k ok = some r) :
 ∃ r', (Instr.lookup t x' k' ok).run P w = .ok r' w ∧ VRel m r r' := by
 unfold aLookup at h
 split at h
 ·rename_i q e hm
  obtain ⟨kt, d, hu, hkt, hf⟩ := tMap_und hm
  split at h
  ·rename_i es hes
   split at h
   ·rename_i hkey
    have hk' := hk.keyOk hkey
    obtain ⟨es', he, hx'⟩ : ∃ es' : Array MapEntry, ERel m es es'.toList ∧ ((x' = .map none ∧ es' = #[]) ∨ ∃ b cl, x' = .map (some b) ∧ w.heap[b]? = some (.map es' cl)) := by
     unfold aEntries at hes
     split at hes
     ·cases hes
      cases hx
      exact ⟨#[], by simp [ERel], .inl ⟨rfl, rfl⟩⟩
     ·rename_i b
      split at hes
      ·rename_i es0 hg
       cases hes
       cases hx
       obtain ⟨_, es', cl, h1, h2⟩ := hS.maps b _ hg
       exact ⟨es', h2, .inr ⟨_, cl, rfl, h1⟩⟩
      ·cases hes
     ·cases hes
    have hrun : ∀ (fr : Option (Nat × Value)), Instr.findNow d k' es'.toList 0 = some fr → (Instr.lookup t x' k' ok).run P w =
     match fr with
     | some (_, v) => .ok (if ok then .tuple #[v, .bool true] else v) w
     | none => ((zeroValue e).run P w).andThen fun z w' => .ok (if ok then .tuple #[z, .bool false] else z) w' := by
     intro fr hfr
     have hc := fun b => checkKey_ok (P := P) (e := b) hkt hf hk' w
     rcases hx' with ⟨rfl, rfl⟩ | ⟨b, cl, rfl, hb⟩
     ·simp only [Instr.lookup, Sem.run_bind, run_und hu, Result.andThen_ok, Sem.run_pure, hc, Instr.findKey, run_und hkt, hfr]
      cases fr with
      | none => simp only [Sem.run_bind, Result.andThen_ok, Sem.run_pure]
                first | done | (cases (zeroValue e).run P w <;> rfl)
      | some x => simp
     ·simp only [Instr.lookup, Sem.run_bind, run_und hu, Result.andThen_ok, Sem.run_pure, hc, Instr.findKey, run_und hkt, hfr, getObj, Sem.run, hb]
      cases fr with
      | none => simp only [Sem.run_bind, Result.andThen_ok, Sem.run_pure]
                first | done | (cases (zeroValue e).run P w <;> rfl)
      | some x => simp
    split at h
    ·rename_i v hfd
     cases h
     obtain ⟨r', g1, g2⟩ := find_ok hf hk es _ _ he hfd 0
     cases r' with
     | none => exact g2.elim
     | some iv =>
       obtain ⟨i, v'⟩ := iv
       refine ⟨_, hrun _ g1, ?_⟩
       cases ok
       ·exact g2
       ·exact .tuple _ _ (.cons _ _ _ _ g2 (.cons _ _ _ _ (.bool _) .nil))
    ·rename_i hfd
     obtain ⟨r', g1, g2⟩ := find_ok hf hk es _ _ he hfd 0
     cases r' with
     | some iv => exact g2.elim
     | none =>
       split at h
       ·rename_i z hz
        cases h
        obtain ⟨h1, h2⟩ := run_zero hz w
        refine ⟨if ok then .tuple #[z, .bool false] else z, by rw [hrun _ g1]; simp [h1], ?_⟩
        cases ok
        ·exact VRel.ground m h2
        ·exact .tuple _ _ (.cons _ _ _ _ (VRel.ground m h2) (.cons _ _ _ _ (.bool _) .nil))
       ·cases h
    ·cases h
   ·cases h
  ·cases h
 ·cases h
theorem sameBits_of {q : Kind} {k k2 k' k2' : Value} (h1 : VRel m k k') (h2 : VRel m k2 k2') (h : aKeyEq q k k2 = some true) (n : Nat) : Instr.sameBits n k2' k' = true := by
 unfold aKeyEq at h
 split at h
 ·obtain rfl := h1.int_l
  obtain rfl := h2.int_l
  split at h
  ·rename_i hk
   subst hk
   simp at h
   subst h
   cases n <;> simp [Instr.sameBits]
  ·cases h
 ·obtain rfl := h1.str_l
  obtain rfl := h2.str_l
  simp at h
  cases n <;> simp [Instr.sameBits, beq_bytes, h]
 ·obtain rfl := h1.bool_l
  obtain rfl := h2.bool_l
  simp at h
  subst h
  cases n <;> simp [Instr.sameBits]
 ·cases h
theorem set_ok {q : Kind} {d : TypeDesc} {k k' v v' : Value} (hf : q.fits d) (hk : VRel m k k') (hv : VRel m v v') : ∀ (es : List (Value × Value)) (es' : List MapEntry) (out : List (Value × Value)), ERel m es es' → aSet q k v es = some out →
 ∀ i, (∃ j v0 en, Instr.findNow d k' es' i = some (some (i + j, v0)) ∧ es'[j]? = some en ∧ Instr.sameBits 10000 en.key k' = true ∧ out.length = es.length ∧
  ∀ en2 : MapEntry, en2.key = k' → en2.val = v' → ERel m out (es'.set j en2)) ∨
   (Instr.findNow d k' es' i = some none ∧ out = es ++ [(k, v)]) := by
 intro es
 induction es with
 | nil =>
   intro es' out he h i
   obtain rfl : es' = [] := List.eq_nil_of_length_eq_zero he.1.symm
   cases h
   exact .inr ⟨rfl, rfl⟩
 | cons kv es ih =>
   obtain ⟨k2, v2⟩ := kv
   intro es' out he h i
   cases es' with
   | nil => simp [ERel] at he
   | cons en es' =>
     obtain ⟨en', h1, h2, h3⟩ := he.2 0 k2 v2 rfl
     simp at h1
     subst h1
     have he' : ERel m es es' := ⟨by simpa using he.1, fun j a b hj => by simpa using he.2 (j + 1) a b (by simpa using hj)⟩
     unfold aSet at h
     split at h
     ·rename_i hq
      cases h
      left
      refine ⟨0, en.val, en, by simp only [Instr.findNow, keyEq_ok hf hk h2 hq]; rfl, rfl, sameBits_of hk h2 hq 10000, by simp, ?_⟩
      ·intro en2 e1 e2
       refine ⟨by simpa using he'.1, fun j a b hj => ?_⟩
       cases j with
       | zero => simp at hj; obtain ⟨rfl, rfl⟩ := hj; exact ⟨en2, rfl, by rw [e1]; exact hk, by rw [e2]; exact hv⟩
       | succ j => simpa using he'.2 j a b (by simpa using hj)
     ·rename_i hq
      obtain ⟨out', ho, rfl⟩ := Option.map_eq_some_iff.1 h
      rcases ih es' out' he' ho (i + 1) with ⟨j, v0, en1, g1, g2, g3, g4, g5⟩ | ⟨g1, rfl⟩
      ·left
       refine ⟨j + 1, v0, en1, ?_, by simpa using g2, g3, by simpa using g4, ?_⟩
       ·simp only [Instr.findNow, keyEq_ok hf hk h2 hq]
        rw [g1]
        simp; omega
       ·intro en2 e1 e2
        have := g5 en2 e1 e2
        refine ⟨by simpa using this.1, fun j' a b hj => ?_⟩
        cases j' with
        | zero => simp at hj; obtain ⟨rfl, rfl⟩ := hj; exact ⟨en, rfl, h2, h3⟩
        | succ j' => simpa using this.2 j' a b (by simpa using hj)
      ·right
       exact ⟨by simp only [Instr.findNow, keyEq_ok hf hk h2 hq]; exact g1, rfl⟩
     ·cases h
theorem oneBlock_set {w : World} {r : Nat} {ob ob0 : Obj} (h : w.heap[r]? = some ob0) : OneBlock r ob w { w with heap := w.heap.setIfInBounds r ob } := by
 have hr : r < w.heap.size := by
  rcases Nat.lt_or_ge r w.heap.size with h1 | h1
  ·exact h1
  ·rw [Array.getElem?_eq_none h1] at h; cases h
 exact ⟨rfl, rfl, rfl, by simp, by simp [hr], fun k hk => by simp [Ne.symm hk]⟩
theorem mapSet_ok (hS : Sim ng ro base w0 m A w) {t : TypeId} {x k v x' k' v' : Value} {A1 : AH} (hx : VRel m x x') (hk : VRel m k k') (hv : VRel m v v') (h : aMapSet P ro A t x k v = some A1) :
 ∃ w', (Instr.mapUpdate t x' k' v').run P w = .ok () w' ∧ Step ng ro base w0 m A w m A1 w' := by
 unfold aMapSet at h
 split at h
 ·rename_i q e b hm
  obtain ⟨kt, d, hu, hkt, hf⟩ := tMap_und hm
  split at h
  ·rename_i es vs hg hvs
   split at h
   ·rename_i hc
    obtain ⟨hro, hkey⟩ := hc
    obtain ⟨out, ho, rfl⟩ := Option.map_eq_some_iff.1 h
    have hk' := hk.keyOk hkey
    have hck := checkKey_ok (P := P) (e := false) hkt hf hk' w
    cases hx
    obtain ⟨hd, es', cl, h1, h2⟩ := hS.maps b es hg
    have hlive : A.get b ≠ .dead := by rw [hg]; simp
    rcases set_ok hf hk hv es es'.toList out h2 ho 0 with ⟨j, v0, en, g1, g2, g3, g4, g5⟩ | ⟨g1, rfl⟩
    ·rw [Nat.zero_add] at g1
     have g2' : es'[j]? = some en := by simpa using g2
     refine ⟨{ w with heap := w.heap.setIfInBounds (m.r b) (.map (es'.modify j fun e => { e with key := k', val := v' }) cl) }, ?_, ?_⟩
     ·simp only [Instr.mapUpdate, Sem.run_bind, run_und hu, Result.andThen_ok, getObj, Sem.run, h1, hck, Instr.findKey, run_und hkt, g1, Sem.run_pure, Instr.keyThatStays, g2', Option.map_some, Option.getD_some, g3, if_true,
       setObj]
     ·refine Step.put hS hlive hro (oneBlock_set h1) (fun c e h => by cases h) ?_
      intro es2 h2
      cases h2
      refine ⟨_, cl, rfl, ?_⟩
      have hl : (es'.modify j fun e => { e with key := k', val := v' }).toList = es'.toList.set j { en with key := k', val := v' } := by
       have hj : j < es'.toList.length := by
        rcases Nat.lt_or_ge j es'.toList.length with h | h
        ·exact h
        ·rw [List.getElem?_eq_none h] at g2; cases g2
       apply List.ext_getElem?
       intro i
       rw [List.getElem?_set]
       simp only [Array.getElem?_toList, Array.getElem?_modify, Array.length_toList] at *
       by_cases hij : j = i
       ·subst hij
        have hjj : es'[j] = en := by rw [Array.getElem?_eq_getElem hj] at g2'; exact Option.some.inj g2'
        simp [hj, hjj]
       ·simp [hij]
      rw [hl]
      exact g5 _ rfl rfl
    ·refine ⟨{ w with heap := w.heap.setIfInBounds (m.r b) (.map (es'.push { key := k', val := v', born := cl }) (cl + 1)) }, ?_, ?_⟩
     ·simp only [Instr.mapUpdate, Sem.run_bind, run_und hu, Result.andThen_ok, getObj, Sem.run, h1, hck, Instr.findKey, run_und hkt, g1, Sem.run_pure, setObj]
     ·refine Step.put hS hlive hro (oneBlock_set h1) (fun c e h => by cases h) ?_
      intro es2 h2'
      cases h2'
      refine ⟨_, cl + 1, rfl, ?_⟩
      refine ⟨by simp [h2.1], fun i a c hi => ?_⟩
      by_cases hil : i < es.length
      ·rw [List.getElem?_append_left hil] at hi
       obtain ⟨en, e1, e2⟩ := h2.2 i a c hi
       refine ⟨en, ?_, e2⟩
       have : i < es'.toList.length := by rw [← h2.1]; exact hil
       rw [Array.toList_push, List.getElem?_append_left this]
       exact e1
      ·rw [List.getElem?_append_right (by omega)] at hi
       have hi0 : i - es.length = 0 := by
        rcases Nat.eq_zero_or_pos (i - es.length) with h | h
        ·exact h
        ·rw [List.getElem?_eq_none (by simp; omega)] at hi; cases hi
       rw [hi0] at hi
       simp at hi
       obtain ⟨rfl, rfl⟩ := hi
       have hie : i = es'.toList.length := by rw [← h2.1]; omega
       refine ⟨{ key := k', val := v', born := cl }, ?_, hk, hv⟩
       rw [Array.toList_push, List.getElem?_append_right (by omega), hie]
       simp
   ·cases h
  ·cases h
 ·cases h
end
end Go.AM
namespace Go.AM
open Go Go.RowKit
section
variable {P : Program} {ng ro base : Nat} {w0 : World} {m : Emb} {A : AH} {w : World} {e : Env} {a : Act}
def Does (P : Program) (ng ro base : Nat) (w0 : World) (m : Emb) (A : AH) (w : World) (n0 : Nat) (o : Oper) (a : Act) (v : Value) (A1 : AH) : Prop :=
 ∃ m' w' n v', (execOp a.eval o).run P w = .ok n w' ∧ (n = .value v' ∨ (n = .skip ∧ v' = undef)) ∧ Step ng ro base w0 m A w m' A1 w' ∧ VRel m' v v' ∧ (DomOk m m' n0 ∨ DomOk m m' A.size)
theorem Does.pure (hS : Sim ng ro base w0 m A w) {n0 : Nat} {o : Oper} {v v' : Value} (h : (execOp a.eval o).run P w = .ok (.value v') w) (hv : VRel m v v') : Does P ng ro base w0 m A w n0 o a v A :=
 ⟨m, w, _, v', h, .inl rfl, .refl hS, hv, .inl .refl⟩
theorem VRels.evals (xs : List Operand) (hx : ∀ x ∈ xs, VRel m (e.eval x) (a.eval x)) : VRels m (xs.map e.eval) (xs.map a.eval) :=
 VRels.map _ _ _ hx
theorem ORel.eval (x : Option Operand) (hx : ∀ y, x = some y → VRel m (e.eval y) (a.eval y)) : ORel m (x.map e.eval) (x.map a.eval) := by
 cases x with
 | none => trivial
 | some y => exact hx y rfl
theorem PRel.parts (ps : List (Nat × Operand)) (hx : ∀ x ∈ ps, VRel m (e.eval x.2) (a.eval x.2)) :
 PRel m (ps.map fun x => (x.1, e.eval x.2)) (ps.map fun x => (x.1, a.eval x.2)) := by
 refine ⟨by simp, fun i j v h => ?_⟩
 rw [List.getElem?_map] at h
 cases hi : ps[i]? with
 | none => rw [hi] at h; cases h
 | some x =>
   rw [hi] at h
   simp at h
   obtain ⟨rfl, rfl⟩ := h
   exact ⟨a.eval x.2, by simp [hi], hx x (List.mem_of_getElem? hi)⟩
theorem op_ok (hS : Sim ng ro base w0 m A w) {n0 : Nat} (hf : ¬ m.dom n0) (hr : ro ≤ n0) {o : Oper} {v : Value} {A1 : AH} (ev : ∀ x, x ∈ o.op.operands.toList → VRel m (e.eval x) (a.eval x))
 (h : aOp P ro n0 o.op e A = some (v, A1)) : Does P ng ro base w0 m A w n0 o a v A1 := by
 cases hop : o.op with
 | move x =>
   rw [hop] at h ev; cases h
   exact .pure hS (by simp [execOp, hop]) (ev x (by simp [Op.operands]))
 | assign x =>
   rw [hop] at h ev; cases h
   exact .pure hS (by simp [execOp, hop]) (ev x (by simp [Op.operands]))
 | pick c x y =>
   rw [hop] at h ev
   simp only [aOp] at h
   split at h
   ·rename_i t ht
    cases h
    have hc := ev c (by simp [Op.operands])
    rw [ht] at hc
    have hc' := hc.bool_l
    refine .pure hS (v' := if t then a.eval x else a.eval y) (by simp [execOp, hop, hc', asBool]) ?_
    cases t
    ·exact ev y (by simp [Op.operands])
    ·exact ev x (by simp [Op.operands])
   ·cases h
 | alloc t =>
   rw [hop] at h
   simp only [aOp] at h
   split at h
   ·rename_i z n hz hn
    cases h
    have he : ETag (esz (allocE t n (isBld z))) (allocE t n (isBld z)) t (0, 0) 0 z.length := by
     cases hB : isBld z with
     | true =>
       have h2 : z.length = 2 := by
        unfold isBld at hB
        split at hB
        ·rfl
        ·cases hB
       rw [h2, show allocE t n true = TAG + (2 * t + 1) from odd_tag t]
       exact ⟨rfl, (ETag.one t (s := 0) rfl).tag⟩
     | false => have h : n % 1099511627776 < TAG := Nat.mod_lt _ (by decide); have k := ETag.of (el := t) (fz := (0, 0)) (s := 0) (n := z.length) h; rw [show esz (allocE t n false) = n % 1099511627776 from esz_lt h]; exact k
    obtain ⟨m', w', r, h1, h2, h3, h0⟩ := alloc_ok hf hr (P := P) hS hz he
    exact ⟨m', w', _, r, by simp [execOp, hop, h1], .inl rfl, h2, h3, (.inl h0)⟩
   ·cases h
 | box t x =>
   rw [hop] at h ev
   simp only [aOp] at h
   split at h
   ·rename_i vs n hvs hn
    cases h
    obtain ⟨m', w', r, h1, h2, h3, h0⟩ := box_ok hf hr (P := P) (t := t) hS (ev x (by simp [Op.operands])) hvs (.of (show n % 1099511627776 < TAG from Nat.mod_lt _ (by decide)))
    exact ⟨m', w', _, r, by simp [execOp, hop, h1], .inl rfl, h2, h3, (.inl h0)⟩
   ·cases h
 | build t parts =>
   rw [hop] at h ev
   simp only [aOp] at h
   split at h
   ·rename_i ps z hps hz
    obtain ⟨cs, hcs, he⟩ := Option.map_eq_some_iff.1 h
    cases he
    have hp := PRel.parts parts.toList (fun x hx => ev x.2 (by simp only [Op.operands]; exact List.mem_map.2 ⟨x, hx, rfl⟩))
    obtain ⟨r, h1, h2⟩ := build_ok (P := P) hps hz hp hcs w
    refine .pure hS (v' := r) ?_ h2
    have : (parts.map fun (x : Nat × Operand) => (x.1, a.eval x.2)) = (parts.toList.map fun x => (x.1, a.eval x.2)).toArray := by apply Array.ext'; simp
    simp only [execOp, hop, Sem.run_bind, this, h1, Result.andThen_ok, Sem.run_pure]
   ·cases h
 | buildSlice t n parts =>
   rw [hop] at h ev
   simp only [aOp] at h
   split at h
   ·rename_i el sz hel hsz
    split at h
    ·rename_i z hz
     split at h
     ·rename_i hl
      obtain ⟨cs, hcs, he⟩ := Option.map_eq_some_iff.1 h
      cases he
      have hp := PRel.parts parts.toList (fun x hx => ev x.2 (by simp only [Op.operands]; exact List.mem_map.2 ⟨x, hx, rfl⟩))
      obtain ⟨m', w', r, h1, h2, h3, h0⟩ := buildSlice_ok hf hr (P := P) hS hel hsz hz hl hp hcs
      refine ⟨m', w', _, r, ?_, .inl rfl, h2, h3, (.inl h0)⟩
      have : (parts.map fun (x : Nat × Operand) => (x.1, a.eval x.2)) = (parts.toList.map fun x => (x.1, a.eval x.2)).toArray := by apply Array.ext'; simp
      simp only [execOp, hop, Sem.run_bind, this, h1, Result.andThen_ok, Sem.run_pure]
     ·cases h
    ·cases h
   ·cases h
 | load t x =>
   rw [hop] at h ev
   simp only [aOp] at h
   split at h
   ·rename_i p hp
    obtain ⟨u, hu, he⟩ := Option.map_eq_some_iff.1 h
    cases he
    have hx := ev x (by simp [Op.operands])
    rw [hp] at hx
    obtain ⟨v', h1, h2⟩ := load_ok (P := P) hS hx hu
    exact .pure hS (v' := v') (by simp [execOp, hop, h1]) h2
   ·cases h
 | store t x y =>
   rw [hop] at h ev
   simp only [aOp] at h
   split at h
   ·rename_i p hp
    obtain ⟨u, hu, he⟩ := Option.map_eq_some_iff.1 h
    cases he
    have hx := ev x (by simp [Op.operands])
    rw [hp] at hx
    obtain ⟨w', h1, h2⟩ := store_ok (P := P) hS hx (ev y (by simp [Op.operands])) hu
    exact ⟨m, w', _, undef, by simp [execOp, hop, h1], .inr ⟨rfl, rfl⟩, h2, .undef m, .inl .refl⟩
   ·cases h
 | nilCheck x =>
   rw [hop] at h ev
   simp only [aOp] at h
   have hx := ev x (by simp [Op.operands])
   split at h
   ·rename_i p hp
    cases h
    rw [hp] at hx
    obtain ⟨b, o', rfl, hv', hd⟩ := hx.ptr_inv
    exact .pure hS (v' := a.eval x) (by simp [execOp, hop, hv']) (by rw [hv']; exact .ptr _ _ hd)
   ·rename_i f y z hp
    cases h
    rw [hp] at hx
    generalize hax : a.eval x = v' at hx
    refine .pure hS (v' := v') ?_ hx
    cases hx
    simp [execOp, hop, hax]
   ·cases h
 | binOp op t x y t' =>
   rw [hop] at h ev
   simp only [aOp] at h
   obtain ⟨u, hu, he⟩ := Option.map_eq_some_iff.1 h
   cases he
   obtain ⟨r', h1, h2⟩ := binOpN_ok (P := P) w (x := x) (y := y) (ev x (by simp [Op.operands])) (ev y (by simp [Op.operands])) hu
   refine .pure hS (v' := r') ?_ h2
   simp only [execOp, hop, Sem.run_bind] at h1 ⊢
   rw [h1]; rfl
 | unOp op t x =>
   rw [hop] at h ev
   simp only [aOp] at h
   obtain ⟨u, hu, he⟩ := Option.map_eq_some_iff.1 h
   cases he
   obtain ⟨r', h1, h2⟩ := un_ok (P := P) (ev x (by simp [Op.operands])) hu w
   exact .pure hS (v' := r') (by simp [execOp, hop, h1]) h2
 | convert s d x =>
   rw [hop] at h ev
   simp only [aOp] at h
   obtain ⟨m', w', r, h1, h2, h3, h0⟩ := convert_ok hf hr (P := P) hS (ev x (by simp [Op.operands])) h
   exact ⟨m', w', _, r, by simp [execOp, hop, h1], .inl rfl, h2, h3, (.inl h0)⟩
 | makeInterface t x =>
   rw [hop] at h ev
   simp only [aOp] at h
   split at h
   ·cases h
   ·rename_i k hne hk
    split at h
    ·cases h
     obtain ⟨d, hd, hf⟩ := tKind_und hk
     refine .pure hS (v' := .iface t (a.eval x)) ?_ (.iface _ _ _ (ev x (by simp [Op.operands])))
     have : ∀ ms, d ≠ .interface ms := by
      rintro ms rfl
      unfold tKind at hk
      rw [hd] at hk
      cases hk
      exact hne rfl
     cases d <;> first | exact absurd rfl (this _) | simp [execOp, hop, Instr.makeInterface, run_und hd]
    ·cases h
   ·cases h
 | typeAssert x xt d ok =>
   rw [hop] at h ev
   cases ok with
   | false => cases h
   | true =>
   simp only [aOp] at h
   split at h
   ·rename_i z t v hk hz hx
    cases h
    have hxr := ev x (by simp [Op.operands])
    rw [hx] at hxr
    obtain ⟨dd, hd, hf⟩ := tKind_und hk
    obtain ⟨fs, rfl⟩ := hf
    generalize hav : a.eval x = xv at hxr
    cases hxr with
    | iface _ _ v' hv =>
    by_cases htd : t = d
    ·subst htd
     refine .pure hS (v' := .tuple #[v', .bool true]) ?_ ?_
     ·simp [execOp, hop, Instr.typeAssert, run_und hd, hav]
     ·rw [if_pos rfl]
      exact .tuple _ _ (.cons _ _ _ _ hv (.cons _ _ _ _ (.bool _) .nil))
    ·refine .pure hS (v' := .tuple #[z, .bool false]) ?_ ?_
     ·have hz1 := (run_zero hz w).1
      simp [execOp, hop, Instr.typeAssert, run_und hd, hav, htd, hz1]
     ·rw [if_neg htd]
      exact .tuple _ _ (.cons _ _ _ _ (VRel.ground m (run_zero hz w).2) (.cons _ _ _ _ (.bool _) .nil))
   ·cases h
 | makeFunc fn f c =>
   rw [hop] at h ev
   simp only [aOp] at h
   cases h
   refine .pure hS (v' := .func fn (f.map a.eval) (c.map a.eval)) (by simp [execOp, hop, Instr.makeFunc]) ?_
   refine .func _ _ _ _ _ ?_ ?_
   ·simpa using VRels.evals f.toList (fun x hx => ev x (by simp [Op.operands] at hx ⊢; exact .inl hx))
   ·simpa using VRels.evals c.toList (fun x hx => ev x (by simp [Op.operands] at hx ⊢; exact .inr hx))
 | makeMap t r =>
   rw [hop] at h
   cases r with
   | some r => cases h
   | none =>
     cases h
     have hst := Step.newMap hf hr (cl := 0) hS (w' := { w with heap := w.heap.push (.map #[] 0) }) rfl rfl rfl rfl
     refine ⟨_, _, _, .map (some w.heap.size), by simp [execOp, hop, Instr.makeMap], .inl rfl, hst, ?_, .inl .add⟩
     have := VRel.map (m := m.add n0 w.heap.size 0 0 0) n0 Emb.add_dom
     simpa using this
 | makeSlice t l c =>
   rw [hop] at h ev
   simp only [aOp] at h
   obtain ⟨m', w', r, h1, h2, h3, h0⟩ := makeSlice_ok hf hr (P := P) hS (ev l (by simp [Op.operands])) (ev c (by simp [Op.operands])) h
   exact ⟨m', w', _, r, by simp [execOp, hop, h1], .inl rfl, h2, h3, (.inl h0)⟩
 | slice t x lo hi mx =>
   rw [hop] at h ev
   simp only [aOp] at h
   obtain ⟨u, hu, he⟩ := Option.map_eq_some_iff.1 h
   cases he
   obtain ⟨r', h1, h2⟩ := slice_ok (P := P) hS (ev x (by simp [Op.operands])) (ORel.eval lo (fun y hy => ev y (by subst hy; simp [Op.operands])))
    (ORel.eval hi (fun y hy => ev y (by subst hy; simp [Op.operands]))) (ORel.eval mx (fun y hy => ev y (by subst hy; simp [Op.operands]))) hu
   exact .pure hS (v' := r') (by simp [execOp, hop, h1]) h2
 | fieldAddr t x f =>
   rw [hop] at h ev
   simp only [aOp] at h
   split at h
   ·rename_i off ft p hf hp
    cases h
    have hx := ev x (by simp [Op.operands])
    rw [hp] at hx
    obtain ⟨b, o', rfl, hv', hd⟩ := hx.ptr_inv
    obtain ⟨fs, fl, hu, hfl, hoff, hty, n, hn, hn0⟩ := tField_und hf
    refine .pure hS (v' := .pointer (some ((⟨m.r b, m.s b + o', none⟩ : Addr).add off))) ?_ ?_
    ·rw [← hty] at hn
     simp [execOp, hop, hv', Instr.fieldAt, run_und hu, hfl, Instr.sureAddr, fieldPlace, run_size hn, hn0, hoff]
    ·exact VRel.ptr_add (.ptr _ _ hd) off
   ·cases h
 | field t x f =>
   rw [hop] at h ev
   simp only [aOp] at h
   split at h
   ·rename_i off ft cs hf hp
    have hx := ev x (by simp [Op.operands])
    rw [hp] at hx
    obtain ⟨fs, fl, hu, hfl, hoff, hty, n0, hn0, _⟩ := tField_und hf
    generalize hax : a.eval x = v' at hx
    cases hx with
    | agg _ cs' hcs h1 =>
    split at h
    ·rename_i n hg hn
     split at h
     ·rename_i hle
      cases h
      refine .pure hS (v' := .agg (cs'.extract off (off + n))) ?_ ?_
      ·simp [execOp, hop, hax, Instr.field, run_und hu, hfl, asAgg, part, hty, run_agg hg, run_size hn, hoff]
      ·refine .agg _ _ ?_ ?_
       ·have := (hcs.drop off).take n
        simpa [List.extract_eq_take_drop] using this
       ·intro u hu'
        exact h1 u (List.mem_of_mem_drop (List.mem_of_mem_take (by simpa using hu')))
     ·cases h
    ·rename_i hg
     obtain ⟨u, hu', he⟩ := Option.map_eq_some_iff.1 h
     cases he
     obtain ⟨u', h2, h3⟩ := hcs.get hu'
     have h2' : cs'[off]? = some u' := by simpa using h2
     exact .pure hS (v' := u') (by simp [execOp, hop, hax, Instr.field, run_und hu, hfl, asAgg, part, hty, run_agg hg, hoff, h2']) h3
    ·cases h
   ·cases h
 | indexAddr t x y =>
   rw [hop] at h ev
   simp only [aOp] at h
   obtain ⟨u, hu, he⟩ := Option.map_eq_some_iff.1 h
   cases he
   obtain ⟨r', h1, h2⟩ := indexAddr_ok (P := P) (ev x (by simp [Op.operands])) (ev y (by simp [Op.operands])) hu w
   exact .pure hS (v' := r') (by simp [execOp, hop, h1]) h2
 | index t x y =>
   rw [hop] at h ev
   simp only [aOp] at h
   obtain ⟨u, hu, he⟩ := Option.map_eq_some_iff.1 h
   cases he
   obtain ⟨r', h1, h2⟩ := index_ok (P := P) (ev x (by simp [Op.operands])) (ev y (by simp [Op.operands])) hu w
   exact .pure hS (v' := r') (by simp [execOp, hop, h1]) h2
 | lookup t x y ok =>
   rw [hop] at h ev
   simp only [aOp] at h
   obtain ⟨u, hu, he⟩ := Option.map_eq_some_iff.1 h
   cases he
   obtain ⟨r', h1, h2⟩ := lookup_ok (P := P) hS (ev x (by simp [Op.operands])) (ev y (by simp [Op.operands])) hu
   exact .pure hS (v' := r') (by simp [execOp, hop, h1]) h2
 | mapUpdate t x y z =>
   rw [hop] at h ev
   simp only [aOp] at h
   obtain ⟨u, hu, he⟩ := Option.map_eq_some_iff.1 h
   cases he
   obtain ⟨w', h1, h2⟩ := mapSet_ok (P := P) hS (ev x (by simp [Op.operands])) (ev y (by simp [Op.operands])) (ev z (by simp [Op.operands])) hu
   exact ⟨m, w', _, undef, by simp [execOp, hop, h1], .inr ⟨rfl, rfl⟩, h2, .undef m, .inl .refl⟩
 | extract x i =>
   rw [hop] at h ev
   simp only [aOp] at h
   split at h
   ·rename_i vs hp
    obtain ⟨u, hu, he⟩ := Option.map_eq_some_iff.1 h
    cases he
    have hx := ev x (by simp [Op.operands])
    rw [hp] at hx
    generalize hax : a.eval x = v' at hx
    cases hx with
    | tuple _ vs' hvs =>
    obtain ⟨u', h1, h2⟩ := hvs.get hu
    have h1' : vs'[i]? = some u' := by simpa using h1
    exact .pure hS (v' := u') (by simp [execOp, hop, hax, Instr.extract, h1']) h2
   ·cases h
 | call c =>
   rw [hop] at h ev
   simp only [aOp] at h
   split at h
   ·rename_i hc
    split at h
    ·rename_i t x hts hxs
     obtain ⟨u, hu, he⟩ := Option.map_eq_some_iff.1 h
     cases he
     obtain ⟨ce, as, ts⟩ := c
     obtain rfl : as = #[x] := by apply Array.ext'; simpa using hxs
     obtain rfl : ts = #[t] := by apply Array.ext'; simpa using hts
     simp only at hc
     subst hc
     obtain ⟨r', h1, h2⟩ := len_ok (P := P) (ty := o.type) hS (ev x (by simp [Op.operands, Call.operands])) hu
     exact .pure hS (v' := r') (by simp [execOp, hop, resolve, invoke, builtin, h1]) h2
    ·cases h
   ·rename_i hc
    split at h
    ·rename_i t t2 s x hts hxs
     split at h
     ·rename_i hk
      obtain ⟨ce, as, ts⟩ := c
      obtain rfl : as = #[s, x] := by apply Array.ext'; simpa using hxs
      obtain rfl : ts = #[t, t2] := by apply Array.ext'; simpa using hts
      simp only at hc
      subst hc
      obtain ⟨m', w', r, h1, h2, h3, h0⟩ := append_ok (P := P) (ty := o.type) hS (.inl hk) (ev s (by simp [Op.operands, Call.operands])) (ev x (by simp [Op.operands, Call.operands])) h
      exact ⟨m', w', _, r, by simp [execOp, hop, resolve, invoke, builtin, h1], .inl rfl, h2, h3, (.inr h0)⟩
     ·rename_i hk
      obtain ⟨ce, as, ts⟩ := c
      obtain rfl : as = #[s, x] := by apply Array.ext'; simpa using hxs
      obtain rfl : ts = #[t, t2] := by apply Array.ext'; simpa using hts
      simp only at hc
      subst hc
      obtain ⟨m', w', r, h1, h2, h3, h0⟩ := append_ok (P := P) (ty := o.type) hS (.inr hk) (ev s (by simp [Op.operands, Call.operands])) (ev x (by simp [Op.operands, Call.operands])) h
      exact ⟨m', w', _, r, by simp [execOp, hop, resolve, invoke, builtin, h1], .inl rfl, h2, h3, (.inr h0)⟩
     ·cases h
    ·cases h
   ·rename_i hc
    obtain ⟨u, hu, he⟩ := Option.map_eq_some_iff.1 h
    cases he
    obtain ⟨ce, as, ts⟩ := c
    simp only at hc
    subst hc
    obtain ⟨r', h1, h2⟩ := min_ok (P := P) (ty := o.type) (ts := ts) (VRels.evals as.toList (fun x hx => ev x (by simpa [Op.operands, Call.operands] using hx))) hu w
    have has : (as.toList.map a.eval).toArray = as.map a.eval := by apply Array.ext'; simp
    rw [has] at h1
    exact .pure hS (v' := r') (by simp [execOp, hop, resolve, invoke, builtin, h1]) h2
   ·cases h
 | _ => rw [hop] at h; cases h
end
end Go.AM
namespace Go.AM
open Go Go.RowKit
section
variable (P : Program) (ng ro base : Nat) (w0 : World)
def FnRuns (f : FuncId) (args : Array Value) (w : World) (R : Ending → World → Prop) : Prop :=
 ((callFunc f args).run P w = .ok (.enter f args) w ∧ Calls P f args w R) ∨ (∃ v' w', (callFunc f args).run P w = .ok (.value v') w' ∧ R (.returned v') w')
def EndRel (m : Emb) (A : AH) (w : World) (A' : AH) : ARes → Ending → World → Prop
 | .ret v, .returned v', w' => ∃ m', Step ng ro base w0 m A w m' A' w' ∧ VRel m' v v'
 | .pan v, .panicked ch, w' => ∃ m' v', ch = [{ v := v', recovered := false }] ∧ Step ng ro base w0 m A w m' A' w' ∧ VRel m' v v'
 | _, _, _ => False
def CallSound (f : FuncId) (args : List Value) (A : AH) (r : ARes) (A' : AH) : Prop :=
 ∀ (m : Emb) (w : World) (args' : List Value), Sim ng ro base w0 m A w → VRels m args args' → FnRuns P f args'.toArray w (EndRel ng ro base w0 m A w A' r)
def OpSound (o : Oper) (e : Env) (A : AH) (v : Value) (A1 : AH) : Prop :=
 ∀ (m : Emb) (w : World) (a : Act), Sim ng ro base w0 m A w → (∀ x, x ∈ o.op.operands.toList → VRel m (e.eval x) (a.eval x)) → ∀ (K : Act → World → Prop) (Q : Exit → Act → World → Prop),
   (∀ m' w' v', Step ng ro base w0 m A w m' A1 w' → VRel m' v v' → K (a.put o.dst v') w') → o.wp P a w K Q
def OpPan (o : Oper) (e : Env) (A : AH) (v : Value) (A1 : AH) : Prop :=
 ∀ (m : Emb) (w : World) (a : Act), Sim ng ro base w0 m A w → (∀ x, x ∈ o.op.operands.toList → VRel m (e.eval x) (a.eval x)) → ∀ (K : Act → World → Prop) (Q : Exit → Act → World → Prop),
   (∀ m' w' v', Step ng ro base w0 m A w m' A1 w' → VRel m' v v' → Q (.panic [{ v := v', recovered := false }]) a w') → o.wp P a w K Q
def Ends (m : Emb) (A : AH) (w : World) (a : Act) (A' : AH) (e' : Env) (Q : Exit → Act → World → Prop) (x : AExit) : Prop :=
 ∀ (m' : Emb) (a' : Act) (w' : World), Step ng ro base w0 m A w m' A' w' → a'.tmps.size = a.tmps.size → a'.defers = a.defers →
   match x with
   | .normal => EnvRel m' e' a'.tmps → Q .normal a' w'
   | .exit id => EnvRel m' e' a'.tmps → Q (.exit id) a' w'
   | .ret => EnvRel m' e' a'.tmps → Q .ret a' w'
   | .pan v => ∀ v', VRel m' v v' → Q (.panic [{ v := v', recovered := false }]) a' w'
def CodeSound (c : Code) (e : Env) (A : AH) (x : AExit) (e' : Env) (A' : AH) : Prop :=
 ∀ (m : Emb) (w : World) (a : Act) (Q : Exit → Act → World → Prop), Sim ng ro base w0 m A w → EnvRel m e a.tmps → dstsOk a.tmps.size ng c = true → Ends ng ro base w0 m A w a A' e' Q x → c.wp P Q a w
def OpsSound (ops : Array Oper) (l : List Nat) (e : Env) (A : AH) (x : AExit) (e' : Env) (A' : AH) : Prop :=
 ∀ (m : Emb) (w : World) (a : Act) (Q : Exit → Act → World → Prop), Sim ng ro base w0 m A w → EnvRel m e a.tmps → (∀ o ∈ ops.toList, dstOk a.tmps.size ng o = true) → Ends ng ro base w0 m A w a A' e' Q x →
   wpOps P ops Q l a w
def Wf (A : AH) : Prop := ∀ b, A.size ≤ b → A.get b = .dead
def Grows (A A' : AH) : Prop := A.size ≤ A'.size
inductive Tr (ops : Array Oper) (S : Nat → Prop) : List Nat → Env → AH → AExit → Env → AH → Prop
 | nil {e A} : Tr ops S [] e A .normal e A
 | pass {i l e A o x e' A'} (ho : ops[i]? = some o) (hw : aWanted ops o e = false) (k : Tr ops S l (e.put o.dst undef) A x e' A') : Tr ops S (i :: l) e A x e' A'
 | quiet {i l e A o v A1 x e' A'} (ho : ops[i]? = some o) (hw : aWanted ops o e = true) (hn : isEff o.op = false) (hv : aOp P ro A.size o.op e A = some (v, A1)) (hd : Held ops (some S) i o.op e A A1)
  (k : Tr ops S l (e.put o.dst v) A1 x e' A') : Tr ops S (i :: l) e A x e' A'
 | eff {i l e A o v A1 x e' A'} (ho : ops[i]? = some o) (hw : aWanted ops o e = true) (hn : isEff o.op = true) (hv : OpSound P ng ro base w0 o e A v A1) (hg : Grows A A1) (hd : Held ops (some S) i o.op e A A1)
  (k : Tr ops S l (e.put o.dst v) A1 x e' A') : Tr ops S (i :: l) e A x e' A'
 | pan {i l e A o v A1} (ho : ops[i]? = some o) (hw : aWanted ops o e = true) (hn : isEff o.op = true) (hv : OpPan P ng ro base w0 o e A v A1) (ha : allWait ops i = true) : Tr ops S (i :: l) e A (.pan v) e A1
end
section
variable {P : Program} {ng ro base : Nat} {w0 : World}
theorem evals {m : Emb} {A : AH} {w : World} {e : Env} {a : Act} {o : Oper} (hS : Sim ng ro base w0 m A w) (hE : EnvRel m e a.tmps) {n : Nat} (hok : dstOk n ng o = true) :
 ∀ x, x ∈ o.op.operands.toList → VRel m (e.eval x) (a.eval x) := by
 intro x hx
 unfold dstOk at hok
 rw [Bool.and_eq_true] at hok
 exact hE.eval hS (List.all_eq_true.1 hok.2 x hx)
theorem dst_lt {o : Oper} {n : Nat} (hok : dstOk n ng o = true) : ∀ d, o.dst = some d → d < n := by
 intro d hd
 unfold dstOk at hok
 rw [Bool.and_eq_true, hd] at hok
 simpa using hok.1
theorem wanted_ok {m : Emb} {e : Env} {tmps : Array Value} {ops : Array Oper} {o : Oper} (h : ∀ j want d, o.guard = some (j, want) → (ops[j]?).bind (·.dst) = some d → VRel m (e d) (tmps.getD d undef)) :
 Region.wanted o (yielded ops tmps) = aWanted ops o e := by
 unfold Region.wanted aWanted
 cases hg : o.guard with
 | none => rfl
 | some jw =>
   obtain ⟨j, want⟩ := jw
   simp only
   unfold yielded
   cases hd : (ops[j]?).bind (·.dst) with
   | none => simp
   | some d =>
     have hr := h j want d hg hd
     simp only [Option.bind_some]
     generalize he : e d = v at hr
     by_cases hlt : d < tmps.size
     ·have ht : tmps[d]? = some (tmps.getD d undef) := by simp [hlt]
      rw [ht]
      generalize tmps.getD d undef = v' at hr
      cases hr <;> simp
     ·have ht : tmps[d]? = none := Array.getElem?_eq_none (Nat.le_of_not_lt hlt)
      have hu : tmps.getD d undef = undef := by simp [Array.getD_eq_getD_getElem?, ht]
      rw [ht]
      rw [hu] at hr
      cases hr
      simp
theorem opSound_of {o : Oper} {e : Env} {A : AH} {v : Value} {A1 : AH} (hv : aOp P ro A.size o.op e A = some (v, A1)) : OpSound P ng ro base w0 o e A v A1 := by
 intro m w a hS ev K Q hK
 obtain ⟨m', w', n, v', h1, h2, h3, h4, _⟩ := op_ok (P := P) hS hS.fresh hS.rl ev hv
 unfold Oper.wp
 rw [h1]
 rcases h2 with rfl | ⟨rfl, rfl⟩
 ·exact hK m' w' v' h3 h4
 ·exact hK m' w' undef h3 h4
theorem target_ok {o : Oper} {e : Env} {f : FuncId} {args : List Value} (ht : aTarget e o.op = some (f, args)) {m : Emb} {a : Act} (ev : ∀ x, x ∈ o.op.operands.toList → VRel m (e.eval x) (a.eval x)) :
 ∃ args', VRels m args args' ∧ ∀ w, (execOp a.eval o).run P w = (callFunc f args'.toArray).run P w := by
 cases hop : o.op <;> rw [hop] at ht <;> simp only [aTarget] at ht <;> try (cases ht; done)
 rename_i c
 split at ht
 ·rename_i fo hc
  split at ht
  ·rename_i g first captured hf
   cases ht
   rw [hop] at ev
   have h1 := ev fo (by simp [Op.operands, Call.operands, hc])
   rw [hf] at h1
   generalize hav : a.eval fo = v' at h1
   cases h1 with
   | func _ _ f' _ c' h2 h3 =>
   have h4 := VRels.evals (e := e) (a := a) c.args.toList (m := m) (fun x hx => ev x (by simp only [Op.operands, Call.operands]; exact Array.mem_toList_iff.2 (Array.mem_append.2 (.inr (by simpa using hx)))))
   refine ⟨_, (h2.append h4).append h3, fun w => ?_⟩
   have : (f'.toList ++ c.args.toList.map a.eval ++ c'.toList).toArray = f' ++ c.args.map a.eval ++ c' := by apply Array.ext'; simp
   rw [this]
   simp [execOp, hop, resolve, hc, hav, Deferred.ofValue, invoke]
  ·cases ht
 ·cases ht
theorem opSound_call {o : Oper} {e : Env} {A : AH} {f : FuncId} {args : List Value} {v : Value} {A1 : AH} (ht : aTarget e o.op = some (f, args)) (hc : CallSound P ng ro base w0 f args A (.ret v) A1) :
 OpSound P ng ro base w0 o e A v A1 := by
 intro m w a hS ev K Q hK
 obtain ⟨args', h1, h2⟩ := target_ok (P := P) ht ev
 unfold Oper.wp
 rw [h2 w]
 rcases hc m w args' hS h1 with ⟨h3, h4⟩ | ⟨v', w', h3, m', h4, h5⟩
 ·rw [h3]
  refine h4.mono fun en w' he => ?_
  cases en with
  | returned v' => obtain ⟨m', h5, h6⟩ := he; exact hK m' w' v' h5 h6
  | panicked ch => exact he.elim
  | outgrown => exact he.elim
 ·rw [h3]
  exact hK m' w' v' h4 h5
theorem opPan_call {o : Oper} {e : Env} {A : AH} {f : FuncId} {args : List Value} {v : Value} {A1 : AH} (ht : aTarget e o.op = some (f, args)) (hc : CallSound P ng ro base w0 f args A (.pan v) A1) :
 OpPan P ng ro base w0 o e A v A1 := by
 intro m w a hS ev K Q hK
 obtain ⟨args', h1, h2⟩ := target_ok (P := P) ht ev
 unfold Oper.wp
 rw [h2 w]
 rcases hc m w args' hS h1 with ⟨h3, h4⟩ | ⟨v', w', h3, h4⟩
 ·rw [h3]
  refine h4.mono fun en w' he => ?_
  cases en with
  | returned v' => exact he.elim
  | panicked ch => obtain ⟨m', v', rfl, h5, h6⟩ := he; exact hK m' w' v' h5 h6
  | outgrown => exact he.elim
 ·exact h4.elim
theorem opPan_panic {o : Oper} {e : Env} {A : AH} {x : Operand} {t : TypeId} {v : Value} (hx : o.op = .panic x) (hv : e.eval x = .iface t v) : OpPan P ng ro base w0 o e A (.iface t v) A := by
 intro m w a hS ev K Q hK
 have h1 := ev x (by rw [hx]; simp [Op.operands])
 rw [hv] at h1
 unfold Oper.wp
 generalize hav : a.eval x = v' at h1
 cases h1 with
 | iface _ _ v' h2 =>
 have : (execOp a.eval o).run P w = .halt (.panic (.iface t v')) w := by simp [execOp, hx, hav, Instr.panic]
 rw [this]
 exact hK m w _ (.refl hS) (.iface _ _ _ h2)
theorem Ends.step {m : Emb} {A : AH} {w : World} {a : Act} {A1 A' : AH} {e' : Env} {Q : Exit → Act → World → Prop} {x : AExit} (h : Ends ng ro base w0 m A w a A' e' Q x) {m1 : Emb} {w1 : World} {a1 : Act}
 (hs : Step ng ro base w0 m A w m1 A1 w1) (ht : a1.tmps.size = a.tmps.size) (hd : a1.defers = a.defers) : Ends ng ro base w0 m1 A1 w1 a1 A' e' Q x :=
 fun m' a' w' hs' ht' hd' => h m' a' w' (hs.trans hs') (ht'.trans ht) (hd'.trans hd)
theorem put_size {a : Act} {d : Option Nat} {v : Value} : (a.put d v).tmps.size = a.tmps.size := by cases d <;> simp [Act.put]
theorem put_defers {a : Act} {d : Option Nat} {v : Value} : (a.put d v).defers = a.defers := by cases d <;> rfl
theorem OpsSound.nil {ops : Array Oper} {e : Env} {A : AH} : OpsSound P ng ro base w0 ops [] e A .normal e A := by
 intro m w a Q hS hE _ hK
 exact hK m a w (.refl hS) rfl rfl hE
theorem OpsSound.pass {ops : Array Oper} {i : Nat} {l : List Nat} {e e' : Env} {A A' : AH} {o : Oper} {x : AExit} (ho : ops[i]? = some o) (hw : aWanted ops o e = false)
 (k : OpsSound P ng ro base w0 ops l (e.put o.dst undef) A x e' A') : OpsSound P ng ro base w0 ops (i :: l) e A x e' A' := by
 intro m w a Q hS hE hok hK
 have ho' := hok o (by have := Array.mem_of_getElem? ho; simpa using this)
 have hwd : Region.wanted o (yielded ops a.tmps) = false := (wanted_ok (e := e) (fun _ _ d _ _ => hE d)).trans hw
 simp only [wpOps, ho, hwd, Bool.false_eq_true, if_false]
 exact k m w _ Q hS (hE.put (.undef m) (dst_lt ho')) (by rw [put_size]; exact hok) (hK.step (.refl hS) put_size put_defers)
theorem OpsSound.op {ops : Array Oper} {i : Nat} {l : List Nat} {e e' : Env} {A A1 A' : AH} {o : Oper} {v : Value} {x : AExit} (ho : ops[i]? = some o) (hw : aWanted ops o e = true) (hv : OpSound P ng ro base w0 o e A v A1)
 (k : OpsSound P ng ro base w0 ops l (e.put o.dst v) A1 x e' A') : OpsSound P ng ro base w0 ops (i :: l) e A x e' A' := by
 intro m w a Q hS hE hok hK
 have ho' := hok o (by have := Array.mem_of_getElem? ho; simpa using this)
 have hwd : Region.wanted o (yielded ops a.tmps) = true := (wanted_ok (e := e) (fun _ _ d _ _ => hE d)).trans hw
 simp only [wpOps, ho, hwd, if_true]
 refine .inl (hv m w a hS (evals hS hE ho') _ _ fun m' w' v' hs hr => ?_)
 exact k m' w' _ Q hs.sim ((hE.mono hs.le).put hr (dst_lt ho')) (by rw [put_size]; exact hok) (hK.step hs put_size put_defers)
theorem OpsSound.pan {ops : Array Oper} {i : Nat} {l : List Nat} {e : Env} {A A1 : AH} {o : Oper} {v : Value} (ho : ops[i]? = some o) (hw : aWanted ops o e = true) (hv : OpPan P ng ro base w0 o e A v A1) :
 OpsSound P ng ro base w0 ops (i :: l) e A (.pan v) e A1 := by
 intro m w a Q hS hE hok hK
 have ho' := hok o (by have := Array.mem_of_getElem? ho; simpa using this)
 have hwd : Region.wanted o (yielded ops a.tmps) = true := (wanted_ok (e := e) (fun _ _ d _ _ => hE d)).trans hw
 simp only [wpOps, ho, hwd, if_true]
 exact .inl (hv m w a hS (evals hS hE ho') _ _ fun m' w' v' hs hr => hK m' a w' hs rfl rfl v' hr)
end
end Go.AM
namespace Go.AM
open Go Go.RowKit
set_option linter.unusedSimpArgs false
set_option linter.unusedVariables false
section
variable {P : Program} {ng ro base : Nat} {w0 : World}
structure Course (P : Program) (ng ro base : Nat) (w0 : World) (ops : Array Oper) (S : Nat → Prop) (es : Nat → Env) (As : Nat → AH) (k L : Nat) : Prop where
 step : ∀ i, k ≤ i → i < L → ∃ o, ops[i]? = some o ∧
  ((aWanted ops o (es i) = false ∧ es (i + 1) = (es i).put o.dst undef ∧ As (i + 1) = As i) ∨
   (aWanted ops o (es i) = true ∧ ∃ v, es (i + 1) = (es i).put o.dst v ∧ Held ops (some S) i o.op (es i) (As i) (As (i + 1)) ∧
     ((isEff o.op = false ∧ aOp P ro (As i).size o.op (es i) (As i) = some (v, As (i + 1))) ∨
      (isEff o.op = true ∧ OpSound P ng ro base w0 o (es i) (As i) v (As (i + 1)) ∧ Grows (As i) (As (i + 1))))))
theorem Course.nil {ops : Array Oper} {S : Nat → Prop} {es : Nat → Env} {As : Nat → AH} {k : Nat} : Course P ng ro base w0 ops S es As k k := ⟨fun i h1 h2 => absurd h2 (by omega)⟩
theorem Course.cons {ops : Array Oper} {S : Nat → Prop} {es : Nat → Env} {As : Nat → AH} {k L : Nat} {e : Env} {A : AH} (h : Course P ng ro base w0 ops S es As (k + 1) L)
 (hs : ∃ o, ops[k]? = some o ∧
   ((aWanted ops o e = false ∧ es (k + 1) = e.put o.dst undef ∧ As (k + 1) = A) ∨
    (aWanted ops o e = true ∧ ∃ v, es (k + 1) = e.put o.dst v ∧ Held ops (some S) k o.op e A (As (k + 1)) ∧
      ((isEff o.op = false ∧ aOp P ro A.size o.op e A = some (v, As (k + 1))) ∨ (isEff o.op = true ∧ OpSound P ng ro base w0 o e A v (As (k + 1)) ∧ Grows A (As (k + 1))))))) :
 Course P ng ro base w0 ops S (fun i => if i = k then e else es i) (fun i => if i = k then A else As i) k L := by
 refine ⟨fun i h1 h2 => ?_⟩
 by_cases hi : i = k
 ·subst hi
  simpa using hs
 ·have h3 : i + 1 ≠ k := by omega
  simp only [if_neg hi, if_neg h3]
  exact h.step i (by omega) h2
def CEnd (P : Program) (ng ro base : Nat) (w0 : World) (ops : Array Oper) (es : Nat → Env) (As : Nat → AH) (n L : Nat) (x : AExit) (e' : Env) (A' : AH) : Prop :=
 (L = n ∧ x = .normal ∧ e' = es L ∧ A' = As L) ∨
 (L < n ∧ ∃ o v, x = .pan v ∧ ops[L]? = some o ∧ aWanted ops o (es L) = true ∧ isEff o.op = true ∧ OpPan P ng ro base w0 o (es L) (As L) v A' ∧ allWait ops L = true)
theorem Tr.course {ops : Array Oper} {S : Nat → Prop} : ∀ (len k : Nat) (e : Env) (A : AH) (x : AExit) (e' : Env) (A' : AH), Tr P ng ro base w0 ops S (List.range' k len) e A x e' A' →
 ∃ es As L, es k = e ∧ As k = A ∧ k ≤ L ∧ Course P ng ro base w0 ops S es As k L ∧ CEnd P ng ro base w0 ops es As (k + len) L x e' A' := by
 intro len
 induction len with
 | zero =>
   intro k e A x e' A' h
   cases h
   exact ⟨fun _ => e, fun _ => A, k, rfl, rfl, Nat.le_refl _, Course.nil, .inl ⟨by omega, rfl, rfl, rfl⟩⟩
 | succ len ih =>
   intro k e A x e' A' h
   rw [List.range'_succ] at h
   have lift : ∀ {e1 : Env} {A1 : AH} (es : Nat → Env) (As : Nat → AH) (L : Nat), es (k + 1) = e1 → As (k + 1) = A1 → k + 1 ≤ L → Course P ng ro base w0 ops S es As (k + 1) L →
    CEnd P ng ro base w0 ops es As (k + 1 + len) L x e' A' →
    (∃ o, ops[k]? = some o ∧
      ((aWanted ops o e = false ∧ es (k + 1) = e.put o.dst undef ∧ As (k + 1) = A) ∨
       (aWanted ops o e = true ∧ ∃ v, es (k + 1) = e.put o.dst v ∧ Held ops (some S) k o.op e A (As (k + 1)) ∧
         ((isEff o.op = false ∧ aOp P ro A.size o.op e A = some (v, As (k + 1))) ∨ (isEff o.op = true ∧ OpSound P ng ro base w0 o e A v (As (k + 1)) ∧ Grows A (As (k + 1))))))) →
    ∃ es As L, es k = e ∧ As k = A ∧ k ≤ L ∧ Course P ng ro base w0 ops S es As k L ∧ CEnd P ng ro base w0 ops es As (k + (len + 1)) L x e' A' := by
    intro e1 A1 es As L _ _ hL hc hend hs
    refine ⟨_, _, L, by simp, by simp, by omega, hc.cons hs, ?_⟩
    have hLk : L ≠ k := by omega
    have hn : k + (len + 1) = k + 1 + len := by omega
    rw [hn]
    unfold CEnd at hend ⊢
    simp only [if_neg hLk]
    exact hend
   cases h with
   | pass ho hw hk =>
     obtain ⟨es, As, L, h1, h2, h3, h4, h5⟩ := ih _ _ _ _ _ _ hk
     exact lift es As L h1 h2 h3 h4 h5 ⟨_, ho, .inl ⟨hw, h1, h2⟩⟩
   | quiet ho hw hn hv hd hk =>
     obtain ⟨es, As, L, h1, h2, h3, h4, h5⟩ := ih _ _ _ _ _ _ hk
     refine lift es As L h1 h2 h3 h4 h5 ⟨_, ho, .inr ⟨hw, _, h1, ?_, .inl ⟨hn, ?_⟩⟩⟩
     ·rw [h2]; exact hd
     ·rw [h2]; exact hv
   | eff ho hw hn hv hg hd hk =>
     obtain ⟨es, As, L, h1, h2, h3, h4, h5⟩ := ih _ _ _ _ _ _ hk
     refine lift es As L h1 h2 h3 h4 h5 ⟨_, ho, .inr ⟨hw, _, h1, ?_, .inr ⟨hn, ?_, ?_⟩⟩⟩
     ·rw [h2]; exact hd
     ·rw [h2]; exact hv
     ·rw [h2]; exact hg
   | pan ho hw hn hv ha =>
     exact ⟨fun _ => e, fun _ => A, k, rfl, rfl, Nat.le_refl _, Course.nil, .inr ⟨by omega, _, _, rfl, ho, hw, hn, hv, ha⟩⟩
theorem aCell_at {A H : AH} {a : Addr} {v : Value} (h : aCell A a = some v) (hH : A.get a.block ≠ .dead → H.get a.block = A.get a.block) : aCell H a = some v := by
 unfold aCell at h ⊢
 cases hg : A.get a.block with
 | dead => cases hs : a.spot <;> simp [hg, hs] at h
 | cells c e => rw [hH (by rw [hg]; simp)]; exact h
 | map es => cases hs : a.spot <;> simp [hg, hs] at h
theorem aRow_at {A H : AH} {a : Addr} {n : Nat} {cs : List Value} (h : aRow A a n = some cs) (hH : A.get a.block ≠ .dead → H.get a.block = A.get a.block) : aRow H a n = some cs := by
 unfold aRow at h ⊢
 cases hg : A.get a.block with
 | dead => cases hs : a.spot <;> simp [hg, hs] at h
 | cells c e => rw [hH (by rw [hg]; simp)]; exact h
 | map es => cases hs : a.spot <;> simp [hg, hs] at h
theorem aLoad_at {A H : AH} {t : TypeId} {a : Addr} {v : Value} (h : aLoad P A t a = some v) (hH : A.get a.block ≠ .dead → H.get a.block = A.get a.block) : aLoad P H t a = some v := by
 unfold aLoad at h ⊢
 split at h
 ·split at h
  ·obtain ⟨cs, hcs, rfl⟩ := Option.map_eq_some_iff.1 h
   rw [aRow_at hcs hH]; rfl
  ·cases h
 ·exact aCell_at h hH
 ·cases h
theorem quiet_at {nx : Nat} {op : Op} {e : Env} {A A1 : AH} {v : Value} (hn : isEff op = false) (h : aOp P ro nx op e A = some (v, A1)) (H : AH)
 (hH : ∀ b, readsAt e op = some b → A.get b ≠ .dead → H.get b = A.get b) :
 (A1 = A ∧ ∀ nx', aOp P ro nx' op e H = some (v, H)) ∨ (isNew op = true ∧ ∃ ob, A1 = A.newAt nx ob ∧ aOp P ro nx op e H = some (v, H.newAt nx ob)) := by
 cases op with
 | move x => cases h; exact .inl ⟨rfl, fun _ => rfl⟩
 | assign x => cases h; exact .inl ⟨rfl, fun _ => rfl⟩
 | pick c x y =>
   simp only [aOp] at h ⊢
   split at h
   ·rename_i t ht; cases h; exact .inl ⟨rfl, fun _ => by simp [ht]⟩
   ·cases h
 | alloc t =>
   simp only [aOp] at h ⊢
   split at h
   ·rename_i z n hz hn; cases h; exact .inr ⟨rfl, _, rfl, by simp [hz, hn]⟩
   ·cases h
 | box t x =>
   simp only [aOp] at h ⊢
   split at h
   ·rename_i z n hz hn; cases h; exact .inr ⟨rfl, _, rfl, by simp [hz, hn]⟩
   ·cases h
 | build t ps =>
   simp only [aOp] at h ⊢
   split at h
   ·rename_i q z hq hz
    obtain ⟨cs, hcs, he⟩ := Option.map_eq_some_iff.1 h
    cases he
    exact .inl ⟨rfl, fun _ => by simp [hq, hz, hcs]⟩
   ·cases h
 | buildSlice t n ps =>
   simp only [aOp] at h ⊢
   split at h
   ·rename_i el sz hel hsz
    split at h
    ·rename_i z hz
     split at h
     ·rename_i hl
      obtain ⟨cs, hcs, he⟩ := Option.map_eq_some_iff.1 h
      cases he
      exact .inr ⟨rfl, _, rfl, by simp only [hel, hsz, hz, if_pos hl, hcs, Option.map_some]⟩
     ·cases h
    ·cases h
   ·cases h
 | load t x =>
   simp only [aOp] at h ⊢
   split at h
   ·rename_i a ha
    obtain ⟨u, hu, he⟩ := Option.map_eq_some_iff.1 h
    cases he
    rw [aLoad_at hu (hH a.block (by simp [readsAt, ha]))]
    exact .inl ⟨rfl, fun _ => rfl⟩
   ·cases h
 | store t x y => cases hn
 | nilCheck x =>
   simp only [aOp] at h ⊢
   split at h
   ·rename_i p hp; cases h; exact .inl ⟨rfl, fun _ => by simp [hp]⟩
   ·rename_i p y z hp; cases h; exact .inl ⟨rfl, fun _ => by simp [hp]⟩
   ·cases h
 | binOp op t x y t' =>
   simp only [aOp] at h ⊢
   obtain ⟨u, hu, he⟩ := Option.map_eq_some_iff.1 h
   cases he
   exact .inl ⟨rfl, fun _ => by simp [hu]⟩
 | unOp op t x =>
   simp only [aOp] at h ⊢
   obtain ⟨u, hu, he⟩ := Option.map_eq_some_iff.1 h
   cases he
   exact .inl ⟨rfl, fun _ => by simp [hu]⟩
 | convert s d x =>
   simp only [aOp, aConvert] at h ⊢
   split at h
   ·rename_i k k' q n h1 h2 h3
    cases h
    exact .inl ⟨rfl, fun _ => by simp [h1, h2, h3]⟩
   ·rename_i q h1 h2 h3
    cases h
    exact .inl ⟨rfl, fun _ => by simp [h1, h2, h3]⟩
   ·rename_i q h1 h2 h3
    split at h
    ·rename_i hb; cases h; exact .inr ⟨rfl, _, rfl, by simp [h1, h2, h3, hb]⟩
    ·cases h
   ·rename_i q c h1 h2 h3
    split at h
    ·rename_i hb; cases h; exact .inl ⟨rfl, fun _ => by simp [h1, h2, h3, hb]⟩
    ·cases h
   ·rename_i a n c h1 h2 h3
    split at h
    ·rename_i hb
     split at h
     ·rename_i hn0; cases h; exact .inl ⟨rfl, fun _ => by simp [h1, h2, h3, hb, hn0]⟩
     ·rename_i hn0
      split at h
      ·rename_i cs hcs
       obtain ⟨l, hl, he⟩ := Option.map_eq_some_iff.1 h
       cases he
       have := aRow_at hcs (hH a.block (by simp [readsAt, h3, hn0]))
       exact .inl ⟨rfl, fun _ => by simp [h1, h2, h3, hb, hn0, this, hl]⟩
      ·cases h
    ·cases h
   ·cases h
 | makeInterface t x =>
   simp only [aOp] at h ⊢
   split at h
   ·cases h
   ·rename_i k hne hk
    split at h
    ·rename_i hp; cases h; exact .inl ⟨rfl, fun _ => by simp [hk, hp]⟩
    ·cases h
   ·cases h
 | typeAssert x xt d ok =>
   cases ok with
   | false => cases h
   | true =>
   simp only [aOp] at h ⊢
   split at h
   ·rename_i z t v hk hz hx; cases h; exact .inl ⟨rfl, fun _ => by simp [hk, hz, hx]⟩
   ·cases h
 | makeFunc fn f c => cases h; exact .inl ⟨rfl, fun _ => rfl⟩
 | makeMap t r =>
   cases r with
   | some r => cases h
   | none => cases h; exact .inr ⟨rfl, _, rfl, rfl⟩
 | makeSlice t l c =>
   simp only [aOp, aMakeSlice] at h ⊢
   split at h
   ·rename_i el sz k n k' n' h1 h2 h3 h4
    split at h
    ·rename_i z hz
     split at h
     ·rename_i hl
      cases h
      exact .inr ⟨rfl, _, rfl, by simp only [h1, h2, h3, h4, hz, if_pos hl]⟩
     ·cases h
    ·cases h
   ·cases h
 | slice t x lo hi mx =>
   simp only [aOp] at h ⊢
   obtain ⟨u, hu, he⟩ := Option.map_eq_some_iff.1 h
   cases he
   refine .inl ⟨rfl, fun _ => ?_⟩
   have : aSlice P H t (e.eval x) (lo.map e.eval) (hi.map e.eval) (mx.map e.eval) = some v := by
    unfold aSlice at hu ⊢
    split at hu
    ·exact hu
    ·rename_i a len cap hx
     split at hu
     ·rename_i sz l hh h1 h2 h3
      split at hu
      ·rename_i hle
       split at hu
       ·rename_i hmx
        split at hu
        ·rename_i hc
         simp only [h1, h2, h3, if_pos hle, if_pos hc]; exact hu
        ·rename_i hc
         split at hu
         ·rename_i p
          split at hu
          ·rename_i c0 e0 hg
           have := hH p.block (by simp [readsAt, hx, hc]) (by rw [hg]; simp)
           simp only [h1, h2, h3, if_pos hle, if_neg hc, this, hg]; exact hu
          ·cases hu
         ·cases hu
       ·rename_i v hmx
        simp only [h1, h2, h3, if_pos hle]
        exact hu
      ·cases hu
     ·cases hu
    ·exact hu
    ·cases hu
   rw [this]; rfl
 | fieldAddr t x f =>
   simp only [aOp] at h ⊢
   split at h
   ·rename_i off ft p h1 h2; cases h; exact .inl ⟨rfl, fun _ => by simp [h1, h2]⟩
   ·cases h
 | field t x f =>
   simp only [aOp] at h ⊢
   split at h
   ·rename_i off ft cs h1 h2
    split at h
    ·rename_i n h3 h4
     split at h
     ·rename_i hl; cases h; exact .inl ⟨rfl, fun _ => by simp [h1, h2, h3, h4, hl]⟩
     ·cases h
    ·rename_i h3
     obtain ⟨u, hu, he⟩ := Option.map_eq_some_iff.1 h
     cases he
     refine .inl ⟨rfl, fun _ => ?_⟩
     simp only [h1, h2, h3, hu, Option.map_some]
    ·cases h
   ·cases h
 | indexAddr t x y =>
   simp only [aOp] at h ⊢
   obtain ⟨u, hu, he⟩ := Option.map_eq_some_iff.1 h
   cases he
   exact .inl ⟨rfl, fun _ => by simp [hu]⟩
 | index t x y =>
   simp only [aOp] at h ⊢
   obtain ⟨u, hu, he⟩ := Option.map_eq_some_iff.1 h
   cases he
   exact .inl ⟨rfl, fun _ => by simp [hu]⟩
 | lookup t x y ok =>
   simp only [aOp] at h ⊢
   obtain ⟨u, hu, he⟩ := Option.map_eq_some_iff.1 h
   cases he
   refine .inl ⟨rfl, fun _ => ?_⟩
   have : aLookup P H t (e.eval x) (e.eval y) ok = some v := by
    unfold aLookup at hu ⊢
    split at hu
    ·rename_i q el hm
     split at hu
     ·rename_i es hes
      have : aEntries H (e.eval x) = some es := by
       unfold aEntries at hes ⊢
       split at hes
       ·exact hes
       ·rename_i r hx
        split at hes
        ·rename_i es0 hg
         have := hH r (by simp [readsAt, hx]) (by rw [hg]; simp)
         simp only [this, hg]; exact hes
        ·cases hes
       ·cases hes
      rw [this]; exact hu
     ·cases hu
    ·cases hu
   rw [this]; rfl
 | mapUpdate t x y z => cases hn
 | extract x i =>
   simp only [aOp] at h ⊢
   split at h
   ·rename_i vs hx
    obtain ⟨u, hu, he⟩ := Option.map_eq_some_iff.1 h
    cases he
    refine .inl ⟨rfl, fun _ => ?_⟩
    simp only [hx, hu, Option.map_some]
   ·cases h
 | call c =>
   simp only [isEff] at hn
   simp only [aOp] at h ⊢
   split at h
   ·rename_i hc
    split at h
    ·rename_i t x hts hxs
     obtain ⟨u, hu, he⟩ := Option.map_eq_some_iff.1 h
     cases he
     refine .inl ⟨rfl, fun _ => ?_⟩
     have : aLen P H t (e.eval x) = some v := by
      unfold aLen at hu ⊢
      split at hu
      ·first | exact hu | (rename_i h1 h2; simp only [h2]; exact hu)
      ·first | exact hu | (rename_i h1 h2; simp only [h2]; exact hu)
      ·first | exact hu | (rename_i h1 h2; simp only [h2]; exact hu)
      ·rename_i r hx h2
       split at hu
       ·rename_i es hg
        have := hH r (by simp [readsAt, hc, hxs, hx]) (by rw [hg]; simp)
        simp only [h2, this, hg]; exact hu
       ·cases hu
      ·cases hu
     rw [this]; rfl
    ·cases h
   ·rename_i hc; rw [hc] at hn; cases hn
   ·rename_i hc
    obtain ⟨u, hu, he⟩ := Option.map_eq_some_iff.1 h
    cases he
    exact .inl ⟨rfl, fun _ => by simp [hu]⟩
   ·cases h
 | _ => cases h
end
end Go.AM
namespace Go.AM
open Go Go.RowKit
set_option linter.unusedVariables false
theorem before_spec (ops : Array Oper) : (Region.before ops).size = ops.size ∧ ∀ (j : Nat) (o : Oper), ops[j]? = some o → ∀ i, bitAt (Region.before ops) j i = true →
 ∃ ed ∈ o.after, Region.binds .any ed = true ∧ (ed.on = i ∨ bitAt (Region.before ops) ed.on i = true) := by
 let F := fun (acc : Array Nat) (o : Oper) => acc.push (o.after.foldl (fun s e => if Region.binds .any e then s ||| 2 ^ e.on ||| acc.getD e.on 0 else s) 0)
 have bits : ∀ (acc : Array Nat) (l : List Edge) (s : Nat) (i : Nat), (l.foldl (fun s e => if Region.binds .any e then s ||| 2 ^ e.on ||| acc.getD e.on 0 else s) s).testBit i = true →
  s.testBit i = true ∨ ∃ ed ∈ l, Region.binds .any ed = true ∧ (ed.on = i ∨ (acc.getD ed.on 0).testBit i = true) := by
  intro acc l
  induction l with
  | nil => intro s i h; exact .inl h
  | cons ed l ih =>
    intro s i h
    rw [List.foldl_cons] at h
    rcases ih _ i h with h1 | ⟨ed', h1, h2⟩
    ·split at h1
     ·rename_i hb
      rw [Nat.testBit_or, Nat.testBit_or, Bool.or_eq_true, Bool.or_eq_true] at h1
      rcases h1 with (h1 | h1) | h1
      ·exact .inl h1
      ·refine .inr ⟨ed, by simp, hb, .inl ?_⟩
       rw [Nat.testBit_two_pow] at h1
       simpa using h1
      ·exact .inr ⟨ed, by simp, hb, .inr h1⟩
     ·exact .inl h1
    ·exact .inr ⟨ed', by simp [h1], h2⟩
 have main : ∀ (l : List Oper) (acc : Array Nat) (pre : List Oper), acc.size = pre.length → (∀ (j : Nat) (o : Oper), pre[j]? = some o → ∀ i, bitAt acc j i = true → ∃ ed ∈ o.after, Region.binds .any ed = true ∧ (ed.on = i ∨ bitAt acc ed.on i = true)) →
  (l.foldl F acc).size = (pre ++ l).length ∧ ∀ (j : Nat) (o : Oper), (pre ++ l)[j]? = some o → ∀ i, bitAt (l.foldl F acc) j i = true → ∃ ed ∈ o.after, Region.binds .any ed = true ∧ (ed.on = i ∨ bitAt (l.foldl F acc) ed.on i = true) := by
  intro l
  induction l with
  | nil => intro acc pre h1 h2; simpa using ⟨h1, h2⟩
  | cons o l ih =>
    intro acc pre h1 h2
    have mono : ∀ j i, bitAt acc j i = true → bitAt (F acc o) j i = true := by
     intro j i h
     unfold bitAt at h ⊢
     have hj : j < acc.size := by
      rcases Nat.lt_or_ge j acc.size with h' | h'
      ·exact h'
      ·rw [Array.getD_eq_getD_getElem?, Array.getElem?_eq_none h'] at h; simp at h
     rw [Array.getD_eq_getD_getElem?] at h ⊢
     rw [Array.getElem?_push, if_neg (by omega)]
     exact h
    have := ih (F acc o) (pre ++ [o]) (by simp [F, h1]) (by
     intro j o' hj i hi
     by_cases hjl : j < pre.length
     ·rw [List.getElem?_append_left hjl] at hj
      have hi' : bitAt acc j i = true := by
       unfold bitAt at hi ⊢
       rw [Array.getD_eq_getD_getElem?] at hi ⊢
       rw [Array.getElem?_push, if_neg (by omega)] at hi
       exact hi
      obtain ⟨ed, e1, e2, e3⟩ := h2 j o' hj i hi'
      exact ⟨ed, e1, e2, e3.imp id (mono _ _)⟩
     ·have hj0 : j = pre.length := by
       rcases Nat.lt_or_ge pre.length j with h | h
       ·rw [List.getElem?_eq_none (by simp; omega)] at hj; cases hj
       ·omega
      subst hj0
      simp at hj
      subst hj
      unfold bitAt at hi
      rw [Array.getD_eq_getD_getElem?, Array.getElem?_push, if_pos h1.symm] at hi
      simp only [Option.getD_some] at hi
      rw [← Array.foldl_toList] at hi
      rcases bits acc o.after.toList 0 i hi with h | ⟨ed, e1, e2, e3⟩
      ·simp at h
      ·exact ⟨ed, by simpa using e1, e2, e3.imp id (fun h => mono _ _ h)⟩)
    simpa using this
 have := main ops.toList #[] [] rfl (by simp)
 unfold Region.before
 rw [← Array.foldl_toList]
 refine ⟨this.1.trans (by simp), fun j o hj i hi => this.2 j o (by simpa using hj) i hi⟩
def Closed (ops : Array Oper) (D : Nat → Prop) : Prop := ∀ j o, ops[j]? = some o → D j → ∀ ed ∈ o.after, Region.binds .any ed = true → D ed.on
theorem Closed.bit {ops : Array Oper} {D : Nat → Prop} (h : Closed ops D) (hk : drawOk ops = true) : ∀ j, D j → ∀ i, bitAt (Region.before ops) j i = true → D i ∧ i < j := by
 intro j
 induction j using Nat.strongRecOn with
 | _ j ih =>
   intro hj i hb
   cases ho : ops[j]? with
   | none =>
     unfold bitAt at hb
     rw [Array.getD_eq_getD_getElem?, Array.getElem?_eq_none] at hb
     ·simp at hb
     ·rw [(before_spec ops).1]
      rcases Nat.lt_or_ge j ops.size with h' | h'
      ·rw [Array.getElem?_eq_getElem h'] at ho; cases ho
      ·exact h'
   | some o =>
     obtain ⟨ed, e1, e2, e3⟩ := (before_spec ops).2 j o ho i hb
     have hlt : ed.on < j := by
      unfold drawOk at hk
      have hjn : j < ops.size := by
       rcases Nat.lt_or_ge j ops.size with h' | h'
       ·exact h'
       ·rw [Array.getElem?_eq_none h'] at ho; cases ho
      have := List.all_eq_true.1 hk j (List.mem_range.2 hjn)
      simp only [ho, Bool.and_eq_true] at this
      have := List.all_eq_true.1 this.1 ed (by simpa using e1)
      simpa [e2] using this
     have hd := h j o ho hj ed e1 e2
     rcases e3 with rfl | e3
     ·exact ⟨hd, hlt⟩
     ·obtain ⟨h1, h2⟩ := ih ed.on hlt hd i e3
      exact ⟨h1, by omega⟩
theorem drawOk_pair {ops : Array Oper} (hk : drawOk ops = true) {i j : Nat} {oi oj : Oper} (hi : ops[i]? = some oi) (hj : ops[j]? = some oj) (hij : i < j) :
 bitAt (Region.before ops) j i = true ∨ (¬ (isEff oj.op = true ∧ (isEff oi.op = true ∨ isNew oi.op = true)) ∧ clash ops oi oj = false) := by
 unfold drawOk at hk
 have hjn : j < ops.size := by
  rcases Nat.lt_or_ge j ops.size with h' | h'
  ·exact h'
  ·rw [Array.getElem?_eq_none h'] at hj; cases hj
 have := List.all_eq_true.1 hk j (List.mem_range.2 hjn)
 simp only [hj, Bool.and_eq_true] at this
 have := List.all_eq_true.1 this.2 i (List.mem_range.2 hij)
 simp only [hi, Bool.or_eq_true, Bool.and_eq_true, Bool.not_eq_true'] at this
 rcases this with h | ⟨h1, h2⟩
 ·exact .inl h
 ·refine .inr ⟨?_, h2⟩
  rintro ⟨h3, h4⟩
  rw [h3, Bool.true_and, Bool.or_eq_false_iff] at h1
  rcases h4 with h4 | h4
  ·rw [h4] at h1; cases h1.1
  ·rw [h4] at h1; cases h1.2
end Go.AM
