/- Soundness of the abstract machine, sixth part: what makes memory. -/
import Derived.Test.YtcdnlghlbljopaaDoorAmS5
namespace Go.AM
open Go Go.RowKit
section
variable {P : Program} {ng ro base : Nat} {w0 : World} {m : Emb} {A : AH} {w : World} {n0 : Nat} (hf : ¬ m.dom n0) (hr : ro ≤ n0)
theorem freeRow_zero {n : Nat} : FreeRow (0, 0) n := fun o _ h => by simp at h
theorem freeRow_end {n : Nat} : FreeRow (n, n + 1) n := fun o ho h => by simp at h; omega
theorem CRel.of {c c' : List Value} (h : VRels m c c') (h1 : ∀ v ∈ c, v.oneCell' = true) : CRel m 0 c c'.toArray := by
  intro i v hv
  obtain ⟨v', h2, h3⟩ := h.get hv
  exact ⟨h1 v (List.mem_of_getElem? hv), v', by simpa using h2, h3⟩
include hf hr in
/-- A new row of cells out of newRow. -/
theorem newRow_ok (hS : Sim ng ro base w0 m A w) {c c' : List Value} {e : Nat} {el : TypeId} (h : VRels m c c') (h1 : ∀ v ∈ c, v.oneCell' = true) :
    ∃ w', (newRow el c'.toArray).run P w = .ok ⟨w.heap.size, 0, none⟩ w' ∧ Step ng ro base w0 m A w (m.add n0 w.heap.size 0 c.length e) (A.newAt n0 (.cells c e)) w' := by
  refine ⟨_, by simp [newRow]; rfl, ?_⟩
  have := Step.new hf hr (e := e) (c := c) (c' := c'.toArray) (el := el) (fz := (0, 0)) hS (w' := { w with heap := w.heap.push (.cells c'.toArray el) }) rfl rfl rfl rfl (by simp [h.length]) (CRel.of h h1) freeRow_zero
  simpa [h.length] using this
include hf hr in
theorem box_ok (hS : Sim ng ro base w0 m A w) {t : TypeId} {v v' : Value} {vs : List Value} {n : Nat} (hv : VRel m v v') (hc : acells v = some vs) :
    ∃ m' w' r, (Instr.box t v').run P w = .ok r w' ∧ Step ng ro base w0 m A w m' (A.newAt n0 (.cells vs n)) w' ∧ VRel m' (.pointer (some ⟨n0, 0, none⟩)) r ∧ DomOk m m' n0 := by
  obtain ⟨cs', h1, h2, h3, h4⟩ := hv.acells hc
  obtain ⟨w', h5, h6⟩ := newRow_ok hf hr (P := P) (e := n) (el := t) hS h3 h4
  refine ⟨_, w', .pointer (some ⟨w.heap.size, 0, none⟩), ?_, h6, ?_, .add⟩
  · have : v'.cells = cs'.toArray := by rw [← h2]
    simp [Instr.box, newVar, this, h5]
  · have := VRel.ptr (m := m.add n0 w.heap.size 0 vs.length n) n0 0 Emb.add_dom
    simpa using this
theorem ground_cells {z : Value} {cs : List Value} (hg : ground z = true) (hc : acells z = some cs) : z.cells.toList = cs ∧ ∀ v ∈ cs, ground1 v = true := by
  cases z <;> simp only [acells, Option.some.injEq] at hc <;> first
    | (cases hc; done)
    | (subst hc; exact ⟨rfl, by simpa [ground] using hg⟩)
    | (subst hc; refine ⟨rfl, ?_⟩; intro v hv; exact List.all_eq_true.1 hg v hv)
include hf hr in
theorem alloc_ok (hS : Sim ng ro base w0 m A w) {t : TypeId} {z : List Value} {n : Nat} (hz : (tZero P t).bind acells = some z) :
    ∃ m' w' r, (Instr.alloc t true (.tuple #[])).run P w = .ok r w' ∧ Step ng ro base w0 m A w m' (A.newAt n0 (.cells z n)) w' ∧ VRel m' (.pointer (some ⟨n0, 0, none⟩)) r ∧ DomOk m m' n0 := by
  cases hzz : tZero P t with
  | none => rw [hzz] at hz; cases hz
  | some v =>
    rw [hzz] at hz
    obtain ⟨h1, h2⟩ := run_zero hzz w
    obtain ⟨m', w', r, h3, h4, h5⟩ := box_ok hf hr (P := P) (t := t) (n := n) hS (VRel.ground m h2) hz
    refine ⟨m', w', r, ?_, h4, h5⟩
    simp only [Instr.box, Sem.run_bind] at h3
    simp only [Instr.alloc, Sem.run_bind, h1, Result.andThen_ok]
    exact h3
theorem tPlaces_und {t : TypeId} {ps : List (Nat × Nat)} (h : tPlaces P t = some ps) : ∃ fs, P.underlying t = some (.struct fs) ∧ fs.toList.mapM (fun f => (P.info? f.type).map fun i => (f.offset, i.size)) = some ps := by
  unfold tPlaces at h
  split at h
  · rename_i fs hu
    refine ⟨fs, hu, ?_⟩
    rw [← h]
    congr 1
    funext f
    simp [tSize, Option.map_map, Function.comp_def]
  · cases h
/-- The parts of a value that is built. -/
def PRel (m : Emb) (ps : List (Nat × Value)) (ps' : List (Nat × Value)) : Prop :=
  ps.length = ps'.length ∧ ∀ (i j : Nat) (v : Value), ps[i]? = some (j, v) → ∃ v', ps'[i]? = some (j, v') ∧ VRel m v v'
theorem build_ok {t : TypeId} {parts parts' : List (Nat × Value)} {ps : List (Nat × Nat)} {z cs : List Value} (hps : tPlaces P t = some ps) (hz : (tZero P t).bind acells = some z) (hp : PRel m parts parts')
    (h : aFill ps z parts = some cs) (w : World) : ∃ r, (Instr.build t parts'.toArray).run P w = .ok r w ∧ VRel m (.agg cs.toArray) r := by
  obtain ⟨fs, hu, hfs⟩ := tPlaces_und hps
  cases hzz : tZero P t with
  | none => rw [hzz] at hz; cases hz
  | some v =>
    rw [hzz] at hz
    obtain ⟨h1, h2⟩ := run_zero hzz w
    obtain ⟨h3, h4⟩ := ground_cells h2 hz
    have h5 : VRels m z v.cells.toList := by rw [h3]; exact VRels.ground1 m h4
    obtain ⟨out', g1, g2, g3⟩ := fill_ok (m := m) (places := fun i => ps[i]?) (fun i x hx => hx) parts parts' z v.cells cs hp.1 hp.2 h5 (fun u hu => ground1_oneCell (h4 u hu)) h
    refine ⟨.agg out', ?_, .agg _ _ (by simpa using g2) (by simpa using g3)⟩
    refine run_build (P := P) w t parts'.toArray out' ?_
    unfold tZero at hzz
    cases hi : P.info? t with
    | none => rw [hi] at hzz; cases hzz
    | some i =>
      rw [hi] at hzz
      cases hzi : i.zero with
      | none => simp [hzi] at hzz
      | some z0 =>
        simp only [Option.bind_some, hzi] at hzz
        split at hzz
        · cases hzz
          simp only [Program.built, hi, hu, hzi, hfs]
          simpa using g1
        · cases hzz
theorem repeat_zero {z : List Value} {n : Nat} : (Array.range (n * z.length)).map (fun i => z.toArray[i % z.toArray.size]!) = (List.replicate n z).flatten.toArray := by
  apply Array.ext'
  rw [Array.toList_map, Array.toList_range]
  apply List.ext_getElem?
  intro i
  rw [List.getElem?_map]
  by_cases hi : i < n * z.length
  · have hz : 0 < z.length := by
      rcases Nat.eq_zero_or_pos z.length with h | h
      · rw [h] at hi; omega
      · exact h
    have hm : i % z.length < z.length := Nat.mod_lt _ hz
    rw [List.getElem?_range hi]
    simp only [Option.map_some]
    have key : ∀ (n i : Nat), i < n * z.length → (List.replicate n z).flatten[i]? = z[i % z.length]? := by
      intro n
      induction n with
      | zero => intro i hi; omega
      | succ n ih =>
        intro i hi
        rw [List.replicate_succ, List.flatten_cons]
        by_cases h : i < z.length
        · rw [List.getElem?_append_left h, Nat.mod_eq_of_lt h]
        · have e1 : (n + 1) * z.length = n * z.length + z.length := by rw [Nat.add_mul]; omega
          have e2 : i % z.length = (i - z.length) % z.length := Nat.mod_eq_sub_mod (by omega)
          rw [List.getElem?_append_right (by omega), ih (i - z.length) (by omega), e2]
    have hk := key n i hi
    simp only [hk, List.size_toArray]
    rw [List.getElem?_eq_getElem hm]
    simp [hm]
  · have h1 : (List.range (n * z.length))[i]? = none := List.getElem?_eq_none (by simp; omega)
    have h2 : (List.replicate n z).flatten[i]? = none := List.getElem?_eq_none (by simp; omega)
    simp [h1, h2]
include hf hr in
theorem buildSlice_ok (hS : Sim ng ro base w0 m A w) {t el : TypeId} {n sz : Nat} {parts parts' : List (Nat × Value)} {z cs : List Value} (he : tElem P t = some el) (hs : tElemSize P t = some sz)
    (hz : (tZero P el).bind acells = some z) (hl : n * sz ≤ 16777216 ∧ z.length = sz ∧ n ≤ 16777216) (hp : PRel m parts parts')
    (h : aFill ((List.range n).map fun i => (i * sz, sz)) (List.replicate n z).flatten parts = some cs) :
    ∃ m' w' r, (Instr.buildSlice t n parts'.toArray).run P w = .ok r w' ∧ Step ng ro base w0 m A w m' (A.newAt n0 (.cells cs sz)) w' ∧ VRel m' (.slice (some ⟨n0, 0, none⟩) n n) r ∧ DomOk m m' n0 := by
  obtain ⟨el', i, he', hu, hi, hsz, _⟩ := tElemSize_und hs
  rw [he] at he'; cases he'
  cases hzz : tZero P el with
  | none => rw [hzz] at hz; cases hz
  | some v =>
    rw [hzz] at hz
    obtain ⟨h1, h2⟩ := run_zero hzz w
    obtain ⟨h3, h4⟩ := ground_cells h2 hz
    have hflat : ∀ u ∈ (List.replicate n z).flatten, ground1 u = true := by
      intro u hu
      obtain ⟨l, hl1, hl2⟩ := List.mem_flatten.1 hu
      obtain ⟨_, rfl⟩ := List.mem_replicate.1 hl1
      exact h4 u hl2
    obtain ⟨out', g1, g2, g3⟩ := fill_ok (m := m) (places := fun i => some (i * sz, sz)) (ps := (List.range n).map fun i => (i * sz, sz)) (fun j x hx => by
        rw [List.getElem?_map] at hx
        rcases Nat.lt_or_ge j n with hj | hj
        · rw [List.getElem?_range hj] at hx; simpa using hx
        · rw [List.getElem?_eq_none (by simpa using hj)] at hx; cases hx) parts parts' (List.replicate n z).flatten (List.replicate n z).flatten.toArray cs hp.1 hp.2 (VRels.ground1 m hflat)
      (fun u hu => ground1_oneCell (hflat u hu)) h
    obtain ⟨w', h5, h6⟩ := newRow_ok hf hr (P := P) (e := sz) (el := el) hS g2 g3
    refine ⟨_, w', .slice (some ⟨w.heap.size, 0, none⟩) n n, ?_, h6, ?_, .add⟩
    · have hv : v.cells = z.toArray := by rw [← h3]
      simp only [Instr.buildSlice, Sem.run_bind, run_und hu, Result.andThen_ok, run_sizeI hi, Sem.run_ite, hsz, Sem.run_pure]
      by_cases h0 : n * sz = 0
      · have h00 : (List.replicate n z).flatten = [] := by
          apply List.eq_nil_of_length_eq_zero
          simp [hl.2.1, h0]
        rw [h00] at g1
        simp only [h0, if_true]
        have : Array.map (fun x => (#[] : Array Value)[x % (#[] : Array Value).size]!) (Array.range 0) = [].toArray := by simp
        rw [this, g1]
        simp [h5]
      · simp only [if_neg h0, h1, Result.andThen_ok, hv]
        rw [show n * sz = n * z.length by rw [hl.2.1], repeat_zero, g1]
        have hl1 : n * z.length ≤ 16777216 := by rw [hl.2.1]; exact hl.1
        simp [h5, hl1]
    · have hb : n < BIG := by have := hl.2.2; unfold BIG; omega
      have := VRel.slExact (m := m.add n0 w.heap.size 0 cs.length sz) n0 0 n n Emb.add_dom hb (Nat.le_refl _)
      simpa using this
end
end Go.AM
