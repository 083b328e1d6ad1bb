/- Entry: a package-level array of numbers may be looked at. -/
import Derived.Test.YtmelgjblkmbhjaaGreatDoorAmQ
import Derived.Test.YtmelgjblkmbhjaaGreatDoorAmRun
import Derived.OpenShut
namespace Go.AM
open Go Go.RowKit
set_option linter.unusedVariables false
theorem SimG.ints {ng : Nat} {W : World} {m : Emb} {A : AH} (h : SimG ng W m A) {P : Program} {n : String} {g N : Nat} {t e : TypeId} {k : IntKind} {ns : List Int} {cs : Array Value} {fuel : Nat} {p : List MemPlace}
    (ht : P.underlying t = some (.array N e)) (he : P.underlying e = some (.int k)) (hce : P.cellsOf e = 1) (hct : P.cellsOf t = N) (hg : g < ng) (hn : P.globalNamed n = some g) (hv : W.var? P n = some cs)
    (htr : DataW.trod (fun _ => ()) P W 0 (fun _ => true) false fuel t cs.toList = some (.agg (ns.map fun x => .lit (.int k x)), p)) :
    SimG ng W m (A.put g (.cells (ns.map (Value.int k)) 1)) := by
  obtain ⟨hS, hs, hek⟩ := h
  obtain ⟨xs, mm, rfl, hx, hlen, hxl, hall⟩ := DataW.trod_array ht htr
  have hmap : (ns.map fun x => (DataW.lit (.int k x) : DataW Unit)) = xs.map (·.1) := by
    have := congrArg Prod.fst hx
    simp only at this
    injection this
  have hnl : ns.length = N := by have := congrArg List.length hmap; simpa [hxl] using this
  have hcl : cs.toList.length = N := by rw [hlen, hct]
  have hcs : cs.toList = ns.map (Value.int k) := by
    refine List.ext_getElem (by rw [List.length_map, hcl, hnl]) fun i h1 h2 => ?_
    have hi : i < N := by omega
    have h3 := hall i hi
    rw [hce, Nat.mul_one, List.getElem?_eq_getElem (by omega)] at h3
    obtain ⟨x, e1, e2, _⟩ := DataW.trod_int he h3
    have e3 : cs.toList[i] = .int k x := by
      have := congrArg (·[0]?) e1
      simp only [List.getElem?_take, List.getElem?_drop] at this
      have h5 : cs.toList[i]? = some (.int k x) := by simpa using this
      rw [List.getElem?_eq_getElem h1] at h5
      exact Option.some.inj h5
    have e4 : ns[i]'(by omega) = x := by
      have := congrArg (·[i]?) hmap
      simp only [List.getElem?_map] at this
      rw [List.getElem?_eq_getElem (by omega), List.getElem?_eq_getElem (by omega), e2] at this
      simpa using this
    rw [e3, List.getElem_map, e4]
  obtain ⟨dg, _, _⟩ := hS.glob g hg
  have hrow : ∃ el fz, W.heap[g]? = some (.cells cs el fz) := by
    unfold World.var? at hv
    rw [hn] at hv
    simp only [Option.bind_some] at hv
    split at hv
    · cases hv; exact ⟨_, _, ‹_›⟩
    · cases hv
  obtain ⟨el, fz, hrow⟩ := hrow
  obtain ⟨e1, k1⟩ := hek g hg
  rw [hrow] at k1
  refine ⟨hS.setGlob hg hrow k1 e1 (by rw [hcs]; exact VRels.map _ _ _ fun x _ => .int k x) (fun v hv => ?_), hs, hek⟩
  obtain ⟨x, _, rfl⟩ := List.mem_map.1 hv
  rfl
theorem Pow.put {g : Nat} {A : AH} (hg : g < A.size) : Pow g (A.put g (.cells (((List.range 20).map fun i => ((10 ^ i : Nat) : Int)).map (Value.int .u64)) 1)) :=
  ⟨_, _, AH.get_put_self _ _ _, hg, by simp, fun i hi => by simp [hi]⟩
/-- The table of the operations, and the powers of ten. -/
def TabPow (g p : Nat) (A : AH) : Prop := Tab g A ∧ Pow p A
theorem TabPow.ext {g p : Nat} {A A' : AH} (h : TabPow g p A) (hE : Ext A A') : TabPow g p A' := ⟨h.1.ext hE, h.2.ext hE⟩
end Go.AM
