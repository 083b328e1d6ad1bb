/- Soundness of the abstract machine, fifth part: slices, indexes, what is made. -/
import Derived.Test.YtcdnlghlbljopaaDoorAmS4
import Derived.Laws.Tables
import Derived.Laws.BytesString
namespace Go.AM
open Go Go.RowKit
section
variable {P : Program} {ng ro base : Nat} {w0 : World} {m : Emb} {A : AH} {w : World}
def ORel (m : Emb) : Option Value → Option Value → Prop
  | none, none => True
  | some v, some v' => VRel m v v'
  | _, _ => False
theorem bound_ok {x x' : Option Value} {d n : Nat} (hx : ORel m x x') (h : aBound x d = some n) :
    (x = none ∧ x' = none ∧ n = d) ∨ (∃ k i, x = some (.int k i) ∧ x' = some (.int k i) ∧ 0 ≤ i ∧ n = i.toNat) := by
  cases x with
  | none =>
    cases x' with
    | none => cases h; exact .inl ⟨rfl, rfl, rfl⟩
    | some v' => exact hx.elim
  | some v =>
    cases x' with
    | none => exact hx.elim
    | some v' =>
      cases v <;> simp only [aBound] at h <;> try (cases h; done)
      rename_i k i
      split at h
      · cases h
        obtain rfl := VRel.int_l hx
        exact .inr ⟨k, i, rfl, rfl, ‹_›, rfl⟩
      · cases h
theorem run_sliceBound {k : IntKind} {i : Int} {y : Nat} {code : BoundsCode} (h0 : 0 ≤ i) (h1 : i.toNat ≤ y) (w : World) : (Instr.sliceBound (.int k i) y code).run P w = .ok i.toNat w := by
  have : i ≤ y := by omega
  simp [Instr.sliceBound, asIntOf, h0, this]
/-- The bounds of a slice expression. -/
theorem run_bounds (w : World) {s : Bool} {len cap l h : Nat} {lo hi lo' hi' : Option Value} (hlo : ORel m lo lo') (hhi : ORel m hi hi') (hl : aBound lo 0 = some l) (hh : aBound hi len = some h) (h1 : l ≤ h)
    (h2 : h ≤ len) (h3 : len ≤ cap) : (Instr.sliceBounds s len cap lo' hi' none).run P w = .ok (l, h, cap) w := by
  have e1 : h ≤ cap := by omega
  rcases bound_ok hlo hl with ⟨_, rfl, rfl⟩ | ⟨k, i, _, rfl, hi0, rfl⟩ <;> rcases bound_ok hhi hh with ⟨_, rfl, rfl⟩ | ⟨k', j, _, rfl, hj0, rfl⟩
  · simp [Instr.sliceBounds]
  · cases s <;> simp [Instr.sliceBounds, run_sliceBound hj0 e1]
  · simp [Instr.sliceBounds, run_sliceBound hi0 h1]
  · cases s <;> simp [Instr.sliceBounds, run_sliceBound hj0 e1, run_sliceBound hi0 h1]
theorem run_bounds3 (w : World) {s : Bool} {len cap l h q : Nat} {lo hi lo' hi' : Option Value} {v v' u : Value} (hlo : ORel m lo lo') (hhi : ORel m hi hi') (hu : hi = some u) (hv : VRel m v v') (hl : aBound lo 0 = some l)
    (hh : aBound hi len = some h) (hq : aBound (some v) 0 = some q) (h1 : l ≤ h) (h2 : h ≤ q) (h3 : q ≤ cap) : (Instr.sliceBounds s len cap lo' hi' (some v')).run P w = .ok (l, h, q) w := by
  have hv' : ORel m (some v) (some v') := hv
  rcases bound_ok hv' hq with ⟨e, _⟩ | ⟨k3, i3, _, e3, hq0, rfl⟩
  · cases e
  cases e3
  rcases bound_ok hhi hh with ⟨e, _⟩ | ⟨k', j, _, rfl, hj0, rfl⟩
  · rw [hu] at e; cases e
  rcases bound_ok hlo hl with ⟨_, rfl, rfl⟩ | ⟨k, i, _, rfl, hi0, rfl⟩
  · cases s <;> simp [Instr.sliceBounds, run_sliceBound hj0 h2, run_sliceBound hq0 h3]
  · cases s <;> simp [Instr.sliceBounds, run_sliceBound hj0 h2, run_sliceBound hi0 h1, run_sliceBound hq0 h3]
theorem run_sliceAt {t el : TypeId} {i : TypeInfo} (hu : P.underlying t = some (.slice el)) (hi : P.info? el = some i) {a : Option Addr} {len cap l h q : Nat} {lo hi' mx : Option Value} (w : World)
    (hb : (Instr.sliceBounds true len cap lo hi' mx).run P w = .ok (l, h, q) w) :
    (Instr.sliceAt t (.slice a len cap) lo hi' mx).run P w = .ok (.slice (if q = l then a else a.map (·.add (l * i.size))) (h - l) (q - l)) w := by
  simp [Instr.sliceAt, Instr.slice, run_und hu, hb, run_sizeI hi]
theorem slice_ok (hS : Sim ng ro base w0 m A w) {t : TypeId} {x x' r : Value} {lo hi mx lo' hi' mx' : Option Value} (hx : VRel m x x') (hlo : ORel m lo lo') (hhi : ORel m hi hi') (hmx : ORel m mx mx')
    (h : aSlice P A t x lo hi mx = some r) : ∃ r', (Instr.sliceAt t x' lo' hi' mx').run P w = .ok r' w ∧ VRel m r r' := by
  unfold aSlice at h
  split at h
  · rename_i s
    obtain rfl := hx.str_l
    split at h
    · rename_i l hh hk hl hhe
      split at h
      · rename_i hle
        cases h
        cases mx' with
        | some v => exact hmx.elim
        | none =>
          have hb := run_bounds (P := P) w (s := false) hlo hhi hl hhe hle.1 hle.2 (Nat.le_refl _)
          exact ⟨.string (s.extract l hh), by simp [Instr.sliceAt, Instr.slice, run_und (tKind_str hk), hb], .string _⟩
      · cases h
    · cases h
  · rename_i a len cap
    split at h
    · rename_i sz l hh hsz hl hhe
      obtain ⟨el, i, _, hu, hi, rfl, _⟩ := tElemSize_und hsz
      split at h
      · rename_i hle
        split at h
        · cases mx' with
          | some v => exact hmx.elim
          | none =>
            split at h
            · rename_i hcap
              cases h
              cases hx with
              | slNil =>
                have hb := run_bounds (P := P) w (s := true) (cap := 0) hlo hhi hl hhe hle.1 hle.2 (Nat.le_refl _)
                obtain ⟨h1, h2⟩ := hle
                obtain rfl : hh = 0 := by omega
                obtain rfl : l = 0 := by omega
                exact ⟨_, run_sliceAt hu hi w hb, by simpa using VRel.slNil⟩
              | slEmpty p p' c hc hd0 =>
                have hb := run_bounds (P := P) w (s := true) (cap := 0) hlo hhi hl hhe hle.1 hle.2 (Nat.le_refl _)
                obtain ⟨h1, h2⟩ := hle
                obtain rfl : hh = 0 := by omega
                obtain rfl : l = 0 := by omega
                rcases hc with rfl | rfl
                · exact ⟨_, run_sliceAt hu hi w hb, by simpa using VRel.slEmpty p p' 0 (.inl rfl) (fun h => (zeroNe h).elim)⟩
                · exact absurd hcap (Nat.lt_irrefl _)
              | slExact b o n c hd hc hn =>
                have hb := run_bounds (P := P) w (s := true) (cap := cap) hlo hhi hl hhe hle.1 hle.2 hn
                refine ⟨_, run_sliceAt hu hi w hb, ?_⟩
                by_cases hq : cap = l
                · rw [if_pos hq, if_pos hq]
                  exact VRel.slExact b o _ _ hd (by omega) (by omega)
                · rw [if_neg hq, if_neg hq]
                  simp only [Option.map_some, ptr_add]
                  rw [Nat.add_assoc]
                  exact VRel.slExact b (o + l * i.size) _ _ hd (by omega) (by omega)
              | slBig b o n c hd hn hk => exact absurd hcap (Nat.lt_irrefl _)
            · split at h
              · rename_i p
                split at h
                · rename_i c0 e0 hg
                  split at h
                  · rename_i hce
                    obtain ⟨rfl, rfl⟩ := hce
                    cases h
                    cases hx with
                    | slEmpty p p' c hc hd0 =>
                      have hb := run_bounds (P := P) w (s := true) (cap := 0) hlo hhi hl hhe hle.1 hle.2 (Nat.le_refl _)
                      obtain ⟨h1, h2⟩ := hle
                      obtain rfl : hh = 0 := by omega
                      obtain rfl : l = 0 := by omega
                      exact ⟨_, run_sliceAt hu hi w hb, by simpa using VRel.slEmpty _ p' BIG (.inr rfl) (fun _ => by simpa [Addr.add] using hd0 rfl)⟩
                    | slExact b o n c hd hc hn => exact absurd hc (Nat.lt_irrefl _)
                    | slBig b o n c hd hn hk =>
                      have hb := run_bounds (P := P) w (s := true) (cap := c) hlo hhi hl hhe hle.1 hle.2 hn
                      refine ⟨_, run_sliceAt hu hi w hb, ?_⟩
                      by_cases hq : c = l
                      · rw [if_pos hq]
                        obtain rfl : hh = l := by omega
                        rw [hq, Nat.sub_self]
                        exact VRel.slEmpty _ _ BIG (.inr rfl) (fun _ => by rw [AM.ptr_add]; exact hd)
                      · rw [if_neg hq]
                        simp only [Option.map_some, ptr_add]
                        rw [Nat.add_assoc]
                        obtain ⟨_, _, _, _, _, he, _⟩ := hS.cells b c0 _ hg
                        refine VRel.slBig b (o + l * i.size) _ _ hd (by omega) ?_
                        rw [he] at hk ⊢
                        have : (c - l) * i.size + l * i.size = c * i.size := by rw [← Nat.add_mul]; congr 1; omega
                        omega
                  · cases h
                · cases h
              · cases h
        · rename_i v
          cases mx' with
          | none => exact hmx.elim
          | some v' =>
          have hmx : VRel m v v' := hmx
          split at h
          · rename_i q hq
            split at h
            · rename_i hm
              cases h
              cases hx with
              | slNil =>
                have hb := run_bounds3 (P := P) w (s := true) (cap := 0) hlo hhi rfl hmx hl hhe hq hle.1 hm.1 (by omega)
                obtain rfl : q = 0 := by omega
                obtain rfl : hh = 0 := by omega
                obtain rfl : l = 0 := by omega
                exact ⟨_, run_sliceAt hu hi w hb, by simpa using VRel.slNil⟩
              | slEmpty p p' c hc hd0 =>
                have hb := run_bounds3 (P := P) w (s := true) (cap := 0) hlo hhi rfl hmx hl hhe hq hle.1 hm.1 (by omega)
                obtain rfl : q = 0 := by omega
                obtain rfl : hh = 0 := by omega
                obtain rfl : l = 0 := by omega
                exact ⟨_, run_sliceAt hu hi w hb, by simpa using VRel.slEmpty p p' 0 (.inl rfl) (fun h => (zeroNe h).elim)⟩
              | slExact b o n c hd hc hn =>
                have hb := run_bounds3 (P := P) w (s := true) (cap := cap) hlo hhi rfl hmx hl hhe hq hle.1 hm.1 (by omega)
                refine ⟨_, run_sliceAt hu hi w hb, ?_⟩
                by_cases hql : q = l
                · rw [if_pos hql, if_pos hql]
                  exact VRel.slExact b o _ _ hd (by omega) (by omega)
                · rw [if_neg hql, if_neg hql]
                  simp only [Option.map_some, ptr_add]
                  rw [Nat.add_assoc]
                  exact VRel.slExact b (o + l * i.size) _ _ hd (by omega) (by omega)
              | slBig b o n c hd hn hk =>
                have hb := run_bounds3 (P := P) w (s := true) (cap := c) hlo hhi rfl hmx hl hhe hq hle.1 hm.1 (by omega)
                refine ⟨_, run_sliceAt hu hi w hb, ?_⟩
                by_cases hql : q = l
                · rw [if_pos hql, if_pos hql]
                  exact VRel.slExact b o _ _ hd (by unfold BIG; omega) (by omega)
                · rw [if_neg hql, if_neg hql]
                  simp only [Option.map_some, ptr_add]
                  rw [Nat.add_assoc]
                  exact VRel.slExact b (o + l * i.size) _ _ hd (by omega) (by omega)
            · cases h
          · cases h
      · cases h
    · cases h
  · cases h
theorem indexAddr_ok {t : TypeId} {x i x' i' r : Value} (hx : VRel m x x') (hi : VRel m i i') (h : aIndexAddr P t x i = some r) (w : World) : ∃ r', (Instr.indexAt t x' i').run P w = .ok r' w ∧ VRel m r r' := by
  unfold aIndexAddr at h
  split at h
  · rename_i a len cap k j
    obtain rfl := hi.int_l
    split at h
    · rename_i sz hsz
      obtain ⟨el, inf, _, hu, hi, rfl, _⟩ := tElemSize_und hsz
      split at h
      · rename_i hj
        cases h
        have key : ∀ {a' : Addr} {len' cap' : Nat}, len' = len → (Instr.indexAt t (.slice (some a') len' cap') (.int k j)).run P w = .ok (.pointer (some (a'.add (j.toNat * inf.size)))) w := by
          intro a' len' cap' hl
          subst hl
          simp [Instr.indexAt, asIntOf, run_und hu, hj.1, hj.2, run_sizeI hi]
        cases hx with
        | slEmpty p p' c hc hd0 => have := hj.1; have := hj.2; simp at this; omega
        | slExact b o n c hd hc hn => exact ⟨_, key rfl, (VRel.ptr b o hd).ptr_add _⟩
        | slBig b o n c hd hn hk => exact ⟨_, key rfl, (VRel.ptr b o hd).ptr_add _⟩
      · cases h
    · cases h
  · rename_i a k j
    obtain rfl := hi.int_l
    obtain ⟨b, o, rfl, rfl, hd⟩ := hx.ptr_inv
    split at h
    · rename_i n el sz ha
      obtain ⟨hu, hs⟩ := tArray_und ha
      split at h
      · rename_i hj
        cases h
        exact ⟨_, by simp [Instr.indexAt, asIntOf, run_und hu, Instr.sureAddr, hj.1, hj.2, run_size hs], (VRel.ptr b o hd).ptr_add _⟩
      · cases h
    · cases h
  · cases h
theorem bytes_get (s : ByteArray) (i : Nat) : s[i]? = s.data[i]? := by
  by_cases h : i < s.size
  · have h' : i < s.data.size := h
    rw [getElem?_pos s i h, getElem?_pos s.data i h']; rfl
  · have h' : ¬ i < s.data.size := h
    rw [getElem?_neg s i h, getElem?_neg s.data i h']
theorem index_ok {t : TypeId} {x i x' i' r : Value} (hx : VRel m x x') (hi : VRel m i i') (h : aIndex P t x i = some r) (w : World) : ∃ r', (Instr.index t x' i').run P w = .ok r' w ∧ VRel m r r' := by
  unfold aIndex at h
  split at h
  · rename_i s k j
    obtain rfl := hi.int_l
    obtain rfl := hx.str_l
    split at h
    · rename_i hk
      split at h
      · rename_i hj
        obtain ⟨b, hb, rfl⟩ := Option.map_eq_some_iff.1 h
        exact ⟨_, by simp [Instr.index, asIntOf, run_und (tKind_str hk), hj, bytes_get, hb], .int _ _⟩
      · cases h
    · cases h
  · rename_i cs k j
    obtain rfl := hi.int_l
    cases hx with
    | agg _ cs' hcs _ =>
    split at h
    · rename_i n el ha
      obtain ⟨hu, hs⟩ := tArray_und ha
      split at h
      · rename_i hj
        obtain ⟨v', hv', hr⟩ := hcs.get h
        refine ⟨v', ?_, hr⟩
        have hv'' : cs'[j.toNat]? = some v' := by simpa using hv'
        simp [Instr.index, asIntOf, run_und hu, hj.2.1, hj.2.2, run_size hs, part, run_agg hj.1, hv'']
      · cases h
    · cases h
  · cases h
theorem un_ok {op : UnOp} {x x' r : Value} (hx : VRel m x x') (h : aUn op x = some r) (w : World) : ∃ r', (Op.unary op x').run P w = .ok r' w ∧ VRel m r r' := by
  unfold aUn at h
  split at h
  · cases h; obtain rfl := hx.bool_l; exact ⟨_, rfl, .bool _⟩
  · cases h; obtain rfl := hx.int_l; exact ⟨_, by simp [Op.unary, Op.intArith], .int _ _⟩
  · cases h
theorem len_ok (hS : Sim ng ro base w0 m A w) {t ty : TypeId} {x x' r : Value} (hx : VRel m x x') (h : aLen P A t x = some r) : ∃ r', (Builtin.len_ #[t] ty #[x']).run P w = .ok r' w ∧ VRel m r r' := by
  unfold aLen at h
  split at h
  · rename_i s hk
    cases h
    obtain rfl := hx.str_l
    exact ⟨_, by simp [Builtin.len_, run_und (tKind_str hk), goInt], .int _ _⟩
  · rename_i a n c hk
    cases h
    obtain ⟨el, hu⟩ := tKind_slice hk
    cases hx <;> exact ⟨_, by simp [Builtin.len_, run_und hu, goInt], .int _ _⟩
  · rename_i hk
    cases h
    obtain ⟨k, el, hu⟩ := tKind_map hk
    cases hx
    exact ⟨_, by simp [Builtin.len_, run_und hu, goInt], .int _ _⟩
  · rename_i b hk
    split at h
    · rename_i es hes
      cases h
      obtain ⟨k, el, hu⟩ := tKind_map hk
      cases hx
      obtain ⟨_, es', cl, h1, h2⟩ := hS.maps b es hes
      refine ⟨.int .i64 es'.size, ?_, ?_⟩
      · simp [Builtin.len_, run_und hu, goInt, getObj, Sem.run, h1]
      · have := h2.1
        simp at this
        rw [this]
        exact .int _ _
    · cases h
  · cases h
theorem min_ok {ty : TypeId} {ts : Array TypeId} {xs xs' : List Value} {r : Value} (hx : VRels m xs xs') (h : aMin xs = some r) (w : World) : ∃ r', (Builtin.min_ ts ty xs'.toArray).run P w = .ok r' w ∧ VRel m r r' := by
  unfold aMin at h
  split at h
  · rename_i k a k' b
    split at h
    · rename_i hk
      subst hk
      cases h
      cases hx with | cons _ _ _ _ h1 h2 =>
      cases h2 with | cons _ _ _ _ h2 h3 =>
      cases h3
      obtain rfl := h1.int_l
      obtain rfl := h2.int_l
      exact ⟨_, by simp [Builtin.min_, Builtin.min2], .int _ _⟩
    · cases h
  · cases h
end
end Go.AM
