/- Soundness of the abstract machine, seventh part: make, conversions, append. -/
import Derived.Test.YtcdnlghlbljopaaDoorAmS6
import Derived.IntWalk
namespace Go.AM
open Go Go.RowKit
section
variable {P : Program} {ng ro base : Nat} {w0 : World} {m : Emb} {A : AH} {w : World} {n0 : Nat} (hf : ¬ m.dom n0) (hr : ro ≤ n0)
theorem i64_small {n : Int} (h0 : 0 ≤ n) (h1 : n < 9223372036854775808) : IntKind.i64.wrap n = n := IntWalk.i64_in n (by omega)
include hf hr in
theorem makeSlice_ok (hS : Sim ng ro base w0 m A w) {t : TypeId} {l c l' c' v : Value} {A1 : AH} (hl : VRel m l l') (hc : VRel m c c') (h : aMakeSlice P n0 A t l c = some (v, A1)) :
    ∃ m' w' r, (Instr.makeSlice t l' c').run P w = .ok r w' ∧ Step ng ro base w0 m A w m' A1 w' ∧ VRel m' v r ∧ DomOk m m' n0 := by
  unfold aMakeSlice at h
  split at h
  · rename_i el sz k n k' n' he hs
    obtain rfl := hl.int_l
    obtain rfl := hc.int_l
    split at h
    · rename_i z hz
      split at h
      · rename_i hn
        obtain ⟨h0, rfl, hlim, hzl⟩ := hn
        cases h
        obtain ⟨el', i, he', hu, hi, rfl, hb⟩ := tElemSize_und hs
        rw [he] at he'; cases he'
        cases hzz : tZero P el with
        | none => rw [hzz] at hz; cases hz
        | some zv =>
          rw [hzz] at hz
          obtain ⟨h1, h2⟩ := run_zero hzz w
          obtain ⟨h3, h4⟩ := ground_cells h2 hz
          have hflat : ∀ u ∈ (List.replicate n.toNat z).flatten, ground1 u = true := by
            intro u hu
            obtain ⟨l, hl1, hl2⟩ := List.mem_flatten.1 hu
            obtain ⟨_, rfl⟩ := List.mem_replicate.1 hl1
            exact h4 u hl2
          obtain ⟨w', h5, h6⟩ := newRow_ok hf hr (P := P) (e := i.size) (el := el) hS (VRels.ground1 m hflat) (fun u hu => ground1_oneCell (hflat u hu))
          refine ⟨_, w', .slice (some ⟨w.heap.size, 0, none⟩) n.toNat n.toNat, ?_, h6, ?_, .add⟩
          · have hv : zv.cells = z.toArray := by rw [← h3]
            have hcells : (Array.range (n.toNat * i.size)).map (fun j => (if n.toNat * i.size = 0 then (#[] : Array Value) else zv.cells)[j % (if n.toNat * i.size = 0 then (#[] : Array Value) else zv.cells).size]!) = (List.replicate n.toNat z).flatten.toArray := by
              by_cases hz0 : n.toNat * i.size = 0
              · have : (List.replicate n.toNat z).flatten = [] := by
                  apply List.eq_nil_of_length_eq_zero
                  simp [hzl, hz0]
                rw [this, hz0]; simp
              · rw [if_neg hz0, hv, ← hzl]; exact repeat_zero
            have hbig : ¬ ((i.bytes : Int) * n > 2 ^ 48) := by
              have : (i.bytes : Int) * n ≤ 4096 * n := Int.mul_le_mul_of_nonneg_right (by omega) h0
              unfold LIM at hlim
              omega
            have hneg : ¬ (n < 0) := by omega
            have hw : IntKind.i64.wrap n = n := i64_small h0 (by unfold LIM at hlim; omega)
            simp only [Instr.makeSlice, Sem.run_bind, run_und hu, Result.andThen_ok, asInt, asIntOf, Sem.run_pure, run_infoI hi, hw, hneg, hbig, Int.lt_irrefl, decide_false, Bool.or_false, Bool.false_eq_true, if_false,
              run_askRoom, run_sizeI hi, Sem.run_ite, gt_iff_lt]
            by_cases hz0 : n.toNat * i.size = 0
            · simp only [hz0, if_true] at hcells
              simp only [hz0, if_true, hcells, h5, Result.andThen_ok]
            · simp only [if_neg hz0] at hcells
              simp only [if_neg hz0, h1, Result.andThen_ok, hcells, h5]
          · have hb' : n.toNat < BIG := by unfold LIM at hlim; unfold BIG; omega
            have := VRel.slExact (m := m.add n0 w.heap.size 0 (List.replicate n.toNat z).flatten.length i.size) n0 0 n.toNat n.toNat Emb.add_dom hb' (Nat.le_refl _)
            simpa using this
      · cases h
    · cases h
  · cases h
end
end Go.AM
