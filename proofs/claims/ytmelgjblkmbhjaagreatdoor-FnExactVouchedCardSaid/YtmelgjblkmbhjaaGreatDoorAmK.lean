/- Entry, second part: structs; what is read stays; a law's call by the abstract machine. -/
import Derived.Test.YtmelgjblkmbhjaaGreatDoorAmJ
import Derived.Test.YtmelgjblkmbhjaaGreatDoorAmSD
import Derived.ChangeFn
namespace Go.AM
open Go Go.RowKit
set_option linter.unusedVariables false
set_option linter.unusedSimpArgs false
section
variable {P : Program} {t : TypeId}
/-! ### Structs -/
/-- The fields of a struct from a place on. -/
structure LayF (P : Program) (fl : List Field) (o : Nat) (α : Type) [Dat α] (isd : ∀ H : Type, List (DataW H) → α → Prop) (sz : α → Prop) : Prop where
  lay : ∀ {H : Type} {enc : TypeId × Value → H} {held : Bool} {ng : Nat} {W : World} {m : Emb} {A : AH} (n : Nat) (cs : List Value) (xs : List (DataW H × List MemPlace)),
    (∀ (i : Nat) (f : Field), fl[i]? = some f → DataW.trod enc P W 0 (fun _ => true) held n f.type ((cs.drop f.offset).take (P.cellsOf f.type)) = xs[i]?) → xs.length = fl.length →
    (∀ k ∈ DataW.weightsEach P (fl.map (·.type)) (xs.map (·.1)), k ≤ reachBytes) → SimR ng W m A →
    ∃ m' A' v cs' F, SimR ng W m' A' ∧ m.Le m' ∧ Ext A A' ∧ Dat.rep A' v cs' F ∧ VRels m' cs' ((cs.drop o).take (Dat.w α)) ∧ (∀ u ∈ cs', u.oneCell' = true) ∧ isd H (xs.map (·.1)) v ∧ sz v
theorem LayF.one {α : Type} [Dat α] {isd : ∀ H : Type, DataW H → α → Prop} {sz : α → Prop} {f : Field} (h : LayT P f.type α isd sz) : LayF P [f] f.offset α (fun H ds v => ∃ d, ds = [d] ∧ isd H d v) sz := by
  refine ⟨fun {H enc held ng W m A} n cs xs hx hl hw hS => ?_⟩
  match xs, hl with
  | [x], _ =>
    have h0 := hx 0 f rfl
    simp only [List.getElem?_cons_zero] at h0
    obtain ⟨m', A', v, cs', F, g1, g2, g3, g4, g5, g6, g7, g8⟩ := h.lay n _ x h0 (fun k hk => hw k (by simp [DataW.weightsEach, hk])) hS
    rw [h.cells] at g5
    exact ⟨m', A', v, cs', F, g1, g2, g3, g4, g5, g6, ⟨_, rfl, g7⟩, g8⟩
theorem LayF.cons {α β : Type} [Dat α] [Dat β] {isd : ∀ H : Type, DataW H → α → Prop} {sz : α → Prop} {isd2 : ∀ H : Type, List (DataW H) → β → Prop} {sz2 : β → Prop} {f : Field} {fl : List Field} (h : LayT P f.type α isd sz)
    (k : LayF P fl (f.offset + Dat.w α) β isd2 sz2) : LayF P (f :: fl) f.offset (α × β) (fun H ds v => ∃ d r, ds = d :: r ∧ isd H d v.1 ∧ isd2 H r v.2) (fun v => sz v.1 ∧ sz2 v.2) := by
  refine ⟨fun {H enc held ng W m A} n cs xs hx hl hw hS => ?_⟩
  match xs, hl with
  | x :: xs, hl =>
    have h0 := hx 0 f rfl
    simp only [List.getElem?_cons_zero] at h0
    simp only [List.map_cons, DataW.weightsEach] at hw
    obtain ⟨m1, A1, v, cs1, F1, g1, g2, g3, g4, g5, g6, g7, g8⟩ := h.lay n _ x h0 (fun k hk => hw k (List.mem_append_left _ hk)) hS
    obtain ⟨m2, A2, u, cs2, F2, k1, k2, k3, k4, k5, k6, k7, k8⟩ := k.lay n cs xs (fun i f' hf => hx (i + 1) f' hf) (by simpa using hl) (fun q hq => hw q (List.mem_append_right _ hq)) g1
    rw [h.cells] at g5
    refine ⟨m2, A2, (v, u), cs1 ++ cs2, F1 ++ F2, k1, g2.trans k2, g3.trans k3, ⟨cs1, cs2, F1, F2, rfl, rfl, Dat.frame g4 fun b hb => ⟨k3.get b (Dat.bound g4 b hb), Nat.lt_of_lt_of_le (Dat.bound g4 b hb) k3.size⟩, k4⟩, ?_, fun z hz => ?_, ⟨_, _, rfl, g7, k7⟩, g8, k8⟩
    · have hs : (cs.drop f.offset).take (Dat.w (α × β)) = (cs.drop f.offset).take (Dat.w α) ++ (cs.drop (f.offset + Dat.w α)).take (Dat.w β) := by
        show (cs.drop f.offset).take (Dat.w α + Dat.w β) = _
        rw [List.take_add, List.drop_drop]
      rw [hs]
      exact (g5.mono k2).app k5
    · rcases List.mem_append.1 hz with hz | hz
      · exact g6 z hz
      · exact k6 z hz
theorem LayT.struct {α : Type} [Dat α] {isd : ∀ H : Type, List (DataW H) → α → Prop} {sz : α → Prop} {fs : Array Field} (hu : P.underlying t = some (.struct fs)) (hc : P.cellsOf t = Dat.w α) (h : LayF P fs.toList 0 α isd sz) :
    LayT P t α (fun H d v => ∃ ds, d = .agg ds ∧ isd H ds v) sz := by
  refine ⟨hc, fun {H enc held ng W m A} fuel cs x hx hw hS => ?_⟩
  obtain ⟨xs, n, _, rfl, hcl, hxl, hf⟩ := DataW.trod_struct hu hx
  simp only [DataW.weights, hu] at hw
  obtain ⟨m', A', v, cs', F, g1, g2, g3, g4, g5, g6, g7, g8⟩ := h.lay n cs xs (fun i f hi => hf i f (by simpa using hi)) (by simpa using hxl) hw hS
  rw [List.drop_zero, List.take_of_length_le (by omega)] at g5
  exact ⟨m', A', v, cs', F, g1, g2, g3, g4, g5, g6, ⟨_, rfl, g7⟩, g8⟩
end
/-! ### What was read stays -/
theorem cell_stays {W W' : World} (h : ∀ b, b < W.heap.size → W'.heap[b]? = W.heap[b]?) {a : Addr} {v : Value} (hv : W.cell? a = some v) : W'.cell? a = some v := by
  unfold World.cell? at hv ⊢
  have hb : a.block < W.heap.size := by
    rcases Nat.lt_or_ge a.block W.heap.size with h' | h'
    · exact h'
    · rw [Array.getElem?_eq_none h'] at hv; cases hv
  rw [h _ hb]
  exact hv
theorem mapM_stays {α β : Type} {f g : α → Option β} (h : ∀ x y, f x = some y → g x = some y) : ∀ {l : List α} {r : List β}, l.mapM f = some r → l.mapM g = some r
  | [], r, hr => by simpa using hr
  | x :: l, r, hr => by
    rw [List.mapM_cons] at hr ⊢
    cases hf : f x with
    | none => rw [hf] at hr; simp at hr
    | some y =>
      cases hm : l.mapM f with
      | none => rw [hf, hm] at hr; simp at hr
      | some ys =>
        rw [hf, hm] at hr
        rw [h x y hf, mapM_stays h hm]
        exact hr
theorem cells_stays {W W' : World} (h : ∀ b, b < W.heap.size → W'.heap[b]? = W.heap[b]?) {base : Nat} {a : Addr} {n : Nat} {cs : List Value} (hv : W.cells? base a n = some cs) : W'.cells? base a n = some cs := by
  unfold World.cells? at hv ⊢
  split at hv
  · rename_i hb
    rw [if_pos hb]
    exact mapM_stays (fun i v hi => cell_stays h hi) hv
  · cases hv
end Go.AM
