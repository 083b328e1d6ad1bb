/- Soundness of the abstract machine, fourth part: looking at memory, writing it. -/
import Derived.Test.YtcdnlghlbljopaaDoorAmS3
namespace Go.AM
open Go Go.RowKit
section
variable {P : Program} {ng ro base : Nat} {w0 : World} {m : Emb} {A : AH} {w : World}
theorem cell_row {w : World} {r o : Nat} {c' : Array Value} {el : TypeId} {fz : Nat × Nat} (h : w.heap[r]? = some (.cells c' el fz)) : w.cell? ⟨r, o, none⟩ = c'[o]? := by
  simp [World.cell?, h]
theorem frozen_row {w : World} {r o : Nat} {c' : Array Value} {el : TypeId} {fz : Nat × Nat} (h : w.heap[r]? = some (.cells c' el fz)) : w.frozen? ⟨r, o, none⟩ = (decide (fz.1 ≤ o) && decide (o < fz.2)) := by
  simp [World.frozen?, h]
theorem VRel.ptr_inv {a : Addr} {v : Value} (h : VRel m (.pointer (some a)) v) : ∃ b o, a = ⟨b, o, none⟩ ∧ v = .pointer (some ⟨m.r b, m.s b + o, none⟩) ∧ m.dom b := by
  cases h with | ptr b o hd => exact ⟨b, o, rfl, rfl, hd⟩
theorem cell_ok (hS : Sim ng ro base w0 m A w) {b o : Nat} {v : Value} (h : aCell A ⟨b, o, none⟩ = some v) :
    v.oneCell' = true ∧ ∃ v', w.cell? ⟨m.r b, m.s b + o, none⟩ = some v' ∧ VRel m v v' := by
  unfold aCell at h
  simp only at h
  split at h
  · rename_i c e _ hc
    obtain ⟨_, c', el, fz, h1, _, _, _, h5, _⟩ := hS.cells b c e hc
    obtain ⟨h6, v', h7, h8⟩ := h5 o v h
    exact ⟨h6, v', by rw [cell_row h1]; exact h7, h8⟩
  · cases h
/-- A piece of a row. -/
theorem row_ok (hS : Sim ng ro base w0 m A w) {b o n : Nat} {cs : List Value} (h : aRow A ⟨b, o, none⟩ n = some cs) :
    cs.length = n ∧ ∃ cs', (∀ w1 : World, w1.heap = w.heap → (loadCells ⟨m.r b, m.s b + o, none⟩ n).run P w1 = .ok cs'.toArray w1) ∧ VRels m cs cs' ∧ ∀ v ∈ cs, v.oneCell' = true := by
  unfold aRow at h
  simp only at h
  split at h
  · rename_i c e _ hc
    split at h
    · rename_i hle
      cases h
      obtain ⟨_, c', el, fz, h1, _, _, h4, h5, _⟩ := hS.cells b c e hc
      have hlen : ((c.drop o).take n).length = n := by simp; omega
      have hlen' : ((c'.toList.drop (m.s b + o)).take n).length = n := by simp; omega
      refine ⟨hlen, (c'.toList.drop (m.s b + o)).take n, ?_, ?_, ?_⟩
      · intro w1 hw1
        have := run_loadCells_list (P := P) w1 ⟨m.r b, m.s b + o, none⟩ ((c'.toList.drop (m.s b + o)).take n) (fun j v hj => by
          rw [ptr_add, cell_row (by rw [hw1]; exact h1)]
          rw [List.getElem?_take] at hj
          split at hj
          · simpa using hj
          · cases hj)
        rwa [hlen'] at this
      · refine VRels.of_get (hlen.trans hlen'.symm) fun i v hv => ?_
        rw [List.getElem?_take] at hv
        split at hv
        · rename_i hi
          rw [List.getElem?_drop] at hv
          obtain ⟨_, v', h7, h8⟩ := h5 (o + i) v hv
          refine ⟨v', ?_, h8⟩
          rw [List.getElem?_take, if_pos hi, List.getElem?_drop]
          simpa [Nat.add_assoc] using h7
        · cases hv
      · intro v hv
        obtain ⟨i, hi⟩ := List.getElem?_of_mem hv
        rw [List.getElem?_take] at hi
        split at hi
        · rw [List.getElem?_drop] at hi; exact (h5 _ _ hi).1
        · cases hi
    · cases h
  · cases h
theorem load_ok (hS : Sim ng ro base w0 m A w) {t : TypeId} {a : Addr} {v a' : Value} (ha : VRel m (.pointer (some a)) a') (h : aLoad P A t a = some v) :
    ∃ v', (Instr.loadAt t a').run P w = .ok v' w ∧ VRel m v v' := by
  obtain ⟨b, o, rfl, rfl, _⟩ := ha.ptr_inv
  unfold aLoad at h
  split at h
  · rename_i hg
    split at h
    · rename_i n hn
      obtain ⟨cs, hcs, rfl⟩ := Option.map_eq_some_iff.1 h
      obtain ⟨_, cs', h1, h2, h3⟩ := row_ok (P := P) hS hcs
      exact ⟨.agg cs'.toArray, by simp [Instr.loadAt, Instr.sureAddr, loadVar, run_agg hg, run_size hn, h1 w rfl], .agg _ _ (by simpa using h2) (by simpa using h3)⟩
    · cases h
  · rename_i hg
    obtain ⟨_, v', h1, h2⟩ := cell_ok hS h
    exact ⟨v', by simp [Instr.loadAt, Instr.sureAddr, loadVar, run_agg hg, h1], h2⟩
  · cases h
/-! Writing. -/
def setArr (c : Array Value) (o : Nat) : List Value → Array Value
  | [] => c
  | v :: vs => setArr (c.setIfInBounds o v) (o + 1) vs
theorem setArr_size : ∀ (vs : List Value) (c : Array Value) (o : Nat), (setArr c o vs).size = c.size
  | [], _, _ => rfl
  | v :: vs, c, o => by rw [setArr, setArr_size vs]; simp
theorem setArr_get : ∀ (vs : List Value) (c : Array Value) (o i : Nat), o + vs.length ≤ c.size → (setArr c o vs)[i]? = if o ≤ i ∧ i < o + vs.length then vs[i - o]? else c[i]?
  | [], c, o, i, _ => by rw [if_neg (by simp only [List.length_nil]; omega)]; rfl
  | v :: vs, c, o, i, h => by
    simp only [List.length_cons] at h
    rw [setArr, setArr_get vs _ _ _ (by simp; omega)]
    by_cases h1 : o + 1 ≤ i ∧ i < o + 1 + vs.length
    · rw [if_pos h1, if_pos (by simp; omega), show i - o = (i - (o + 1)) + 1 by omega]; rfl
    · rw [if_neg h1]
      by_cases h2 : i = o
      · subst h2
        have hlt : i < c.size := by omega
        rw [if_pos (by simp)]
        simp [hlt]
      · rw [if_neg (by simp; omega)]
        simp [Ne.symm h2]
theorem setCells_length : ∀ (vs : List Value) (c : List Value) (o : Nat), (setCells c o vs).length = c.length
  | [], _, _ => rfl
  | v :: vs, c, o => by rw [setCells, setCells_length vs]; simp
theorem setCells_get : ∀ (vs : List Value) (c : List Value) (o i : Nat), o + vs.length ≤ c.length → (setCells c o vs)[i]? = if o ≤ i ∧ i < o + vs.length then vs[i - o]? else c[i]?
  | [], c, o, i, _ => by rw [if_neg (by simp only [List.length_nil]; omega)]; rfl
  | v :: vs, c, o, i, h => by
    simp only [List.length_cons] at h
    rw [setCells, setCells_get vs _ _ _ (by simp; omega)]
    by_cases h1 : o + 1 ≤ i ∧ i < o + 1 + vs.length
    · rw [if_pos h1, if_pos (by simp; omega), show i - o = (i - (o + 1)) + 1 by omega]; rfl
    · rw [if_neg h1]
      by_cases h2 : i = o
      · subst h2
        have hlt : i < c.length := by omega
        rw [if_pos (by simp)]
        simp [hlt]
      · rw [if_neg (by simp; omega)]
        rw [List.getElem?_set_ne (by omega)]
theorem heap_setCells : ∀ (vs : List Value) (w : World) (r o : Nat) (c : Array Value) (el : TypeId) (fz : Nat × Nat), w.heap[r]? = some (.cells c el fz) →
    OneBlock r (.cells (setArr c o vs) el fz) w (w.setCells r o vs)
  | [], w, r, o, c, el, fz, h => ⟨rfl, rfl, rfl, rfl, h, fun _ _ => rfl⟩
  | v :: vs, w, r, o, c, el, fz, h => by
    have h1 : (w.setCell ⟨r, o, none⟩ v).heap[r]? = some (.cells (c.setIfInBounds o v) el fz) := by
      simp [World.setCell, Array.getElem?_modify, h]
    obtain ⟨a1, a2, a3, a4, a5, a6⟩ := heap_setCells vs (w.setCell ⟨r, o, none⟩ v) r (o + 1) _ el fz h1
    refine ⟨a1, a2, a3, by simpa [World.setCells, World.setCell] using a4, a5, fun k hk => ?_⟩
    rw [World.setCells, a6 k hk]
    simp only [World.setCell, Array.getElem?_modify]
    rw [if_neg (by omega)]
/-- Cells written in a row: the world, and how the rows belong together. -/
theorem write_ok (hS : Sim ng ro base w0 m A w) {b o : Nat} {c vs vs' : List Value} {e : Nat} (hc : A.get b = .cells c e) (hro : ro ≤ b) (hl : o + vs.length ≤ c.length) (hv : VRels m vs vs')
    (h1 : ∀ v ∈ vs, v.oneCell' = true) :
    ∃ w', (storeCells ⟨m.r b, m.s b + o, none⟩ vs').run P w = .ok () w' ∧ Step ng ro base w0 m A w m (A.put b (.cells (setCells c o vs) e)) w' := by
  obtain ⟨hd, c', el, fz, g1, g2, g3, g4, g5, g6⟩ := hS.cells b c e hc
  have hlen := hv.length
  have h1' : ∀ v ∈ vs', v.oneCell' = true := by
    intro v' hv'
    obtain ⟨i, hi⟩ := List.getElem?_of_mem hv'
    obtain ⟨v, hvv⟩ : ∃ v, vs[i]? = some v := by
      have : i < vs.length := by
        rw [hlen]
        rcases Nat.lt_or_ge i vs'.length with h | h
        · exact h
        · rw [List.getElem?_eq_none h] at hi; cases hi
      exact ⟨vs[i], by simp [this]⟩
    obtain ⟨u, hu, hr⟩ := hv.get hvv
    rw [hi] at hu
    cases hu
    rw [hr.oneCell]
    exact h1 v (List.mem_of_getElem? hvv)
  have hrun := run_storeCells_cells (P := P) (m.r b) (m.s b + o) vs' 0 w (fun j hj => by
      rw [cell_row g1]; simp; omega) (fun j hj => by
      rw [frozen_row g1]
      have := g6 hro (m.s b + o + 0 + j) (by omega)
      simpa using this) h1'
  refine ⟨_, hrun, ?_⟩
  rw [Nat.add_zero]
  refine Step.put hS (by rw [hc]; simp) hro (heap_setCells vs' w (m.r b) (m.s b + o) c' el fz g1) ?_ (fun es h => by cases h)
  intro c2 e2 h2
  cases h2
  refine ⟨_, el, fz, rfl, g2, by rw [g3, setArr_size], by rw [setArr_size, setCells_length]; exact g4, ?_, by rw [setArr_size]; exact g6 hro⟩
  intro i v hv2
  rw [setCells_get vs c o i hl] at hv2
  by_cases hin : o ≤ i ∧ i < o + vs.length
  · rw [if_pos hin] at hv2
    refine ⟨h1 v (List.mem_of_getElem? hv2), ?_⟩
    obtain ⟨v', hv', hr⟩ := hv.get hv2
    refine ⟨v', ?_, hr⟩
    rw [setArr_get vs' c' _ _ (by omega), if_pos (by omega), show m.s b + i - (m.s b + o) = i - o by omega]
    exact hv'
  · rw [if_neg hin] at hv2
    obtain ⟨k1, v', k2, k3⟩ := g5 i v hv2
    refine ⟨k1, v', ?_, k3⟩
    rw [setArr_get vs' c' _ _ (by omega), if_neg (by omega)]
    exact k2
theorem store_ok (hS : Sim ng ro base w0 m A w) {t : TypeId} {a : Addr} {v v' a' : Value} {A' : AH} (ha : VRel m (.pointer (some a)) a') (hv : VRel m v v') (h : aStore P ro A t a v = some A') :
    ∃ w', (Instr.storeAt t a' v').run P w = .ok () w' ∧ Step ng ro base w0 m A w m A' w' := by
  obtain ⟨b, o, rfl, rfl, _⟩ := ha.ptr_inv
  unfold aStore at h
  split at h
  · rename_i c e vs n _ hc hvs hn
    split at h
    · rename_i hle
      cases h
      simp only at hle hc
      obtain ⟨cs', h1, h2, h3, h4⟩ := hv.acells hvs
      obtain ⟨w', h5, h6⟩ := write_ok (P := P) (o := o) hS hc hle.2.1 (by omega) h3 h4
      refine ⟨w', ?_, h6⟩
      have hsz : v'.cells.size = n := by rw [← Array.length_toList, h2, ← h3.length]; exact hle.1
      simp [Instr.storeAt, Instr.sureAddr, storeVar, run_size hn, hsz, h2, h5]
    · cases h
  · cases h
/-! Making. -/
theorem fill_ok {places : Nat → Option (Nat × Nat)} {ps : List (Nat × Nat)} (hps : ∀ i x, ps[i]? = some x → places i = some x) : ∀ (parts parts' : List (Nat × Value)) (cells : List Value) (cells' : Array Value) (out : List Value),
    parts.length = parts'.length → (∀ (i j : Nat) (v : Value), parts[i]? = some (j, v) → ∃ v', parts'[i]? = some (j, v') ∧ VRel m v v') → VRels m cells cells'.toList → (∀ v ∈ cells, v.oneCell' = true) →
    aFill ps cells parts = some out → ∃ out', Instr.fill places cells' parts' = some out' ∧ VRels m out out'.toList ∧ ∀ v ∈ out, v.oneCell' = true := by
  intro parts
  induction parts with
  | nil =>
    intro parts' cells cells' out hl _ hc h1 h
    obtain rfl : parts' = [] := by simpa using hl.symm
    cases h
    exact ⟨cells', rfl, hc, h1⟩
  | cons p parts ih =>
    obtain ⟨j, v⟩ := p
    intro parts' cells cells' out hl hp hc h1 h
    cases parts' with
    | nil => simp at hl
    | cons p' parts' =>
      obtain ⟨v', hv', hr⟩ := hp 0 j v rfl
      simp at hv'
      subst hv'
      unfold aFill at h
      split at h
      · rename_i off size vs hpl hvs
        split at h
        · rename_i hle
          obtain ⟨cs', g1, g2, g3, g4⟩ := hr.acells hvs
          have hfold : (v'.cells.zipIdx.foldl (fun (cs : Array Value) (x : Value × Nat) => cs.setIfInBounds (off + x.2) x.1) cells').toList = setCells cells'.toList off cs' := by
            rw [← Array.foldl_toList, Array.toList_zipIdx, g2]
            have key : ∀ (l : List Value) (k : Nat) (cs : Array Value), (List.foldl (fun (cs : Array Value) (x : Value × Nat) => cs.setIfInBounds (off + x.2) x.1) cs (l.zipIdx k)).toList = setCells cs.toList (off + k) l := by
              intro l
              induction l with
              | nil => intro k cs; rfl
              | cons u l ih => intro k cs; rw [List.zipIdx_cons, List.foldl_cons, ih]; simp [setCells, Nat.add_assoc]
            simpa using key cs' 0 cells'
          have hsize : v'.cells.size = size := by rw [← Array.length_toList, g2, ← g3.length]; exact hle.1
          have hsz : cells'.size = cells.length := by rw [← Array.length_toList]; exact hc.length.symm
          obtain ⟨out', k1, k2, k3⟩ := ih parts' (setCells cells off vs) (v'.cells.zipIdx.foldl (fun (cs : Array Value) (x : Value × Nat) => cs.setIfInBounds (off + x.2) x.1) cells') out (by simpa using hl)
            (fun i j u hu => by simpa using hp (i + 1) j u (by simpa using hu)) (by rw [hfold]; exact hc.setCells off g3) (by
              intro u hu
              obtain ⟨i, hi⟩ := List.getElem?_of_mem hu
              rw [setCells_get _ _ _ _ (by rw [hle.1]; exact hle.2)] at hi
              split at hi
              · exact g4 u (List.mem_of_getElem? hi)
              · exact h1 u (List.mem_of_getElem? hi)) h
          refine ⟨out', ?_, k2, k3⟩
          unfold Instr.fill
          rw [hps _ _ hpl]
          simp only [hsize, hsz, ne_eq, not_true_eq_false, decide_false, Bool.false_or]
          rw [if_neg (by simpa using hle.2)]
          exact k1
        · cases h
      · cases h
end
end Go.AM
