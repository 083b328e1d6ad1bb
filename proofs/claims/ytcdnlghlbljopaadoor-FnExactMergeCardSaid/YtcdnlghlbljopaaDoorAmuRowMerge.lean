/- FnExactMerge: whatever the input, the law returns true. -/
import Derived.Test.YtcdnlghlbljopaaDoorRows
import Derived.Test.YtcdnlghlbljopaaDoorCards
import Derived.Test.YtcdnlghlbljopaaDoorTie
import Derived.Test.YtcdnlghlbljopaaDoorAmuFacts
import Derived.Test.YtcdnlghlbljopaaDoorAmuLMerge
import Derived.WalkKit
import Derived.ProofKit
import Derived.OpenShut
import Derived.SizedLaws
import Derived.LaidMore
import Derived.Stop.Joined
import Derived.SevenTiedAt
namespace Go.Proofs.YtcdnlghlbljopaaDoor.fnExactMerge
open Go Go.ChangeShapes Go.WideShapes Go.ChangeAt Go.RowKit Go.AM
set_option linter.unusedVariables false
set_option maxRecDepth 100000
set_option maxHeartbeats 4000000
set_option linter.defProp false
def argsL := (ArgsL.cons (ArgL.struct (LayT.struct Tryd.underlying50 (by kernel_rfl) (LayF.cons (LayT.int Tryd.underlying3 (by kernel_rfl)) (LayF.cons (LayT.slice (LayT.str Tryd.underlying9 (by kernel_rfl)) Tryd.underlying47 (by kernel_rfl) (of_decide_eq_true (by kernel_rfl)) (by decide)) (LayF.one (LayT.slice (LayT.struct Tryd.underlying208 (by kernel_rfl) (LayF.cons (LayT.struct Tryd.underlying24 (by kernel_rfl) (LayF.one (LayT.slice (LayT.struct Tryd.underlying187 (by kernel_rfl) (LayF.cons (LayT.int Tryd.underlying3 (by kernel_rfl)) (LayF.cons (LayT.str Tryd.underlying9 (by kernel_rfl)) (LayF.one (LayT.int Tryd.underlying3 (by kernel_rfl)))))) Tryd.underlying22 (by kernel_rfl) (of_decide_eq_true (by kernel_rfl)) (by decide)))) (LayF.cons (LayT.slice (LayT.struct Tryd.underlying234 (by kernel_rfl) (LayF.cons (LayT.str Tryd.underlying9 (by kernel_rfl)) (LayF.cons (LayT.bool Tryd.underlying4 (by kernel_rfl)) (LayF.one (LayT.str Tryd.underlying9 (by kernel_rfl)))))) Tryd.underlying206 (by kernel_rfl) (of_decide_eq_true (by kernel_rfl)) (by decide)) (LayF.one (LayT.str Tryd.underlying9 (by kernel_rfl)))))) Tryd.underlying48 (by kernel_rfl) (of_decide_eq_true (by kernel_rfl)) (by decide)))))) Tryd.underlying50) (ArgsL.cons (ArgL.struct (LayT.struct Tryd.underlying50 (by kernel_rfl) (LayF.cons (LayT.int Tryd.underlying3 (by kernel_rfl)) (LayF.cons (LayT.slice (LayT.str Tryd.underlying9 (by kernel_rfl)) Tryd.underlying47 (by kernel_rfl) (of_decide_eq_true (by kernel_rfl)) (by decide)) (LayF.one (LayT.slice (LayT.struct Tryd.underlying208 (by kernel_rfl) (LayF.cons (LayT.struct Tryd.underlying24 (by kernel_rfl) (LayF.one (LayT.slice (LayT.struct Tryd.underlying187 (by kernel_rfl) (LayF.cons (LayT.int Tryd.underlying3 (by kernel_rfl)) (LayF.cons (LayT.str Tryd.underlying9 (by kernel_rfl)) (LayF.one (LayT.int Tryd.underlying3 (by kernel_rfl)))))) Tryd.underlying22 (by kernel_rfl) (of_decide_eq_true (by kernel_rfl)) (by decide)))) (LayF.cons (LayT.slice (LayT.struct Tryd.underlying234 (by kernel_rfl) (LayF.cons (LayT.str Tryd.underlying9 (by kernel_rfl)) (LayF.cons (LayT.bool Tryd.underlying4 (by kernel_rfl)) (LayF.one (LayT.str Tryd.underlying9 (by kernel_rfl)))))) Tryd.underlying206 (by kernel_rfl) (of_decide_eq_true (by kernel_rfl)) (by decide)) (LayF.one (LayT.str Tryd.underlying9 (by kernel_rfl)))))) Tryd.underlying48 (by kernel_rfl) (of_decide_eq_true (by kernel_rfl)) (by decide)))))) Tryd.underlying50) (ArgsL.nil)) : ArgsL Tryd.prog [50, 50] _)
def argQ (A : AH) (us : List Value) : Prop := ∃ (x0 : (Int) × (List (ByteArray)) × (List (((List ((Int) × (ByteArray) × (Int)))) × (List ((ByteArray) × (Bool) × (ByteArray))) × (ByteArray)))) (u0 : Value) (us1 : List Value), us = u0 :: us1 ∧ CellN A x0 u0 ∧ ((-9223372036854775808 ≤ x0.1 ∧ x0.1 ≤ 9223372036854775807) ∧ (x0.2.1.length ≤ reachBytes ∧ ∀ v : ByteArray, v ∈ x0.2.1 → (v.size ≤ reachBytes)) ∧ (x0.2.2.length ≤ reachBytes ∧ ∀ v : ((List ((Int) × (ByteArray) × (Int)))) × (List ((ByteArray) × (Bool) × (ByteArray))) × (ByteArray), v ∈ x0.2.2 → (((v.1.length ≤ reachBytes ∧ ∀ vv : (Int) × (ByteArray) × (Int), vv ∈ v.1 → ((-9223372036854775808 ≤ vv.1 ∧ vv.1 ≤ 9223372036854775807) ∧ (vv.2.1.size ≤ reachBytes) ∧ (-9223372036854775808 ≤ vv.2.2 ∧ vv.2.2 ≤ 9223372036854775807)))) ∧ (v.2.1.length ≤ reachBytes ∧ ∀ vv : (ByteArray) × (Bool) × (ByteArray), vv ∈ v.2.1 → ((vv.1.size ≤ reachBytes) ∧ (True) ∧ (vv.2.2.size ≤ reachBytes))) ∧ (v.2.2.size ≤ reachBytes)))) ∧ ∃ (x1 : (Int) × (List (ByteArray)) × (List (((List ((Int) × (ByteArray) × (Int)))) × (List ((ByteArray) × (Bool) × (ByteArray))) × (ByteArray)))) (u1 : Value) (us2 : List Value), us1 = u1 :: us2 ∧ CellN A x1 u1 ∧ ((-9223372036854775808 ≤ x1.1 ∧ x1.1 ≤ 9223372036854775807) ∧ (x1.2.1.length ≤ reachBytes ∧ ∀ v : ByteArray, v ∈ x1.2.1 → (v.size ≤ reachBytes)) ∧ (x1.2.2.length ≤ reachBytes ∧ ∀ v : ((List ((Int) × (ByteArray) × (Int)))) × (List ((ByteArray) × (Bool) × (ByteArray))) × (ByteArray), v ∈ x1.2.2 → (((v.1.length ≤ reachBytes ∧ ∀ vv : (Int) × (ByteArray) × (Int), vv ∈ v.1 → ((-9223372036854775808 ≤ vv.1 ∧ vv.1 ≤ 9223372036854775807) ∧ (vv.2.1.size ≤ reachBytes) ∧ (-9223372036854775808 ≤ vv.2.2 ∧ vv.2.2 ≤ 9223372036854775807)))) ∧ (v.2.1.length ≤ reachBytes ∧ ∀ vv : (ByteArray) × (Bool) × (ByteArray), vv ∈ v.2.1 → ((vv.1.size ≤ reachBytes) ∧ (True) ∧ (vv.2.2.size ≤ reachBytes))) ∧ (v.2.2.size ≤ reachBytes)))) ∧ us2 = []
theorem argsQ : ArgsL Tryd.prog [50, 50] argQ := argsL
theorem law (A : AH) (us : List Value) (hG : Tab 0 A) (hQ : argQ A us) : ACalls Tryd.prog A.size (fun _ _ _ _ _ => False) 12 us A (fun r _ => r = .ret (.bool true)) := by
  obtain ⟨x0, u0, _, rfl, h0, z0, x1, u1, _, rfl, h1, z1, rfl⟩ := hQ
  obtain ⟨c0, F0, rfl, r0⟩ := h0
  obtain ⟨c1, F1, rfl, r1⟩ := h1
  exact Amu.LMerge.law_a A (Nat.le_refl _) hG x0 c0 F0 r0 ((fun h => ⟨(fun _ => trivial) h.1, (fun h => ⟨(fun h => ⟨Nat.lt_of_le_of_lt h.1 (by decide), fun v hv => (fun h => Nat.lt_of_le_of_lt h (by decide)) (h.2 v hv)⟩) h.1, (fun h => ⟨Nat.lt_of_le_of_lt h.1 (by decide), fun v hv => (fun h => ⟨(fun h => ⟨Nat.lt_of_le_of_lt h.1 (by decide), fun v hv => (fun h => ⟨(fun _ => trivial) h.1, (fun h => ⟨(fun h => Nat.lt_of_le_of_lt h (by decide)) h.1, (fun _ => trivial) h.2⟩) h.2⟩) (h.2 v hv)⟩) h.1, (fun h => ⟨(fun h => ⟨Nat.lt_of_le_of_lt h.1 (by decide), fun v hv => (fun h => ⟨(fun h => Nat.lt_of_le_of_lt h (by decide)) h.1, (fun h => ⟨(fun _ => trivial) h.1, (fun h => Nat.lt_of_le_of_lt h (by decide)) h.2⟩) h.2⟩) (h.2 v hv)⟩) h.1, (fun h => Nat.lt_of_le_of_lt h (by decide)) h.2⟩) h.2⟩) (h.2 v hv)⟩) h.2⟩) h.2⟩) z0) x1 c1 F1 r1 ((fun h => ⟨(fun _ => trivial) h.1, (fun h => ⟨(fun h => ⟨Nat.lt_of_le_of_lt h.1 (by decide), fun v hv => (fun h => Nat.lt_of_le_of_lt h (by decide)) (h.2 v hv)⟩) h.1, (fun h => ⟨Nat.lt_of_le_of_lt h.1 (by decide), fun v hv => (fun h => ⟨(fun h => ⟨Nat.lt_of_le_of_lt h.1 (by decide), fun v hv => (fun h => ⟨(fun _ => trivial) h.1, (fun h => ⟨(fun h => Nat.lt_of_le_of_lt h (by decide)) h.1, (fun _ => trivial) h.2⟩) h.2⟩) (h.2 v hv)⟩) h.1, (fun h => ⟨(fun h => ⟨Nat.lt_of_le_of_lt h.1 (by decide), fun v hv => (fun h => ⟨(fun h => Nat.lt_of_le_of_lt h (by decide)) h.1, (fun h => ⟨(fun _ => trivial) h.1, (fun h => Nat.lt_of_le_of_lt h (by decide)) h.2⟩) h.2⟩) (h.2 v hv)⟩) h.1, (fun h => Nat.lt_of_le_of_lt h (by decide)) h.2⟩) h.2⟩) (h.2 v hv)⟩) h.2⟩) h.2⟩) z1)
theorem lifted (os : Os) (started : os.Started) (H : Type) (enc : TypeId × Value → H) :
    ReturnsInHanded {} Tryd.checked os 12 .any (fun w args => (Rows.fnExactMergeSpec.pre enc Tryd.prog Tryd.f12 [] false w args ∧ laidMetH Tryd.prog Amu.Facts.laid0 w) ∧ sizedMet enc Tryd.prog Tryd.f12 (OpenSpec.ofChange Rows.fnExactMergeSpec) false w args)
      (Rows.fnExactMergeSpec.post enc Tryd.prog Tryd.f12 false true false false) := by
  refine returnsInHanded_of_change_and (C := Tryd.checked) (X := fun w _ => laidMetH Tryd.prog Amu.Facts.laid0 w) (fun _ _ _ hh h => h.of_heap hh) Amu.Facts.own started (by kernel_rfl) Tryd.func12
    (ChangeSpec.witness_shaped (enc := enc) (C := Tryd.checked) (os := os) (X := fun w _ => laidMetH Tryd.prog Amu.Facts.laid0 w) false (World.doorLaid Tryd.prog 400 os) #[.agg #[.int .i64 0, .slice none 0 0, .slice none 0 0], .agg #[.int .i64 0, .slice none 0 0, .slice none 0 0]] 8 rfl (Amu.Facts.door_shaped os _) (by as_aux_lemma => kernel_rfl) (by as_aux_lemma => kernel_rfl) (by as_aux_lemma => kernel_rfl) (Amu.Facts.door_met0 os _)) ?_
  intro W base args ds gs before hval hW _ hsz hL _
  obtain ⟨m, A, hS, hG⟩ := Amu.Facts.start0 hL
  exact law_returns (X := fun _ _ _ _ _ => False) (ts := [50, 50]) (G := Tab 0) (Q := argQ) (tb := 4) Tryd.func12 rfl (by kernel_rfl) Amu.Facts.mixed (fun _ _ _ _ _ _ _ _ h => h.elim) (by kernel_rfl) (by kernel_rfl) Tryd.underlying4 Amu.Facts.laidOut (by kernel_rfl) (by kernel_rfl)
    (fun H ds gs hd hg => by
      match ds, hd with
      | [_, _], _ => match gs, hg with
        | [_], _ => rfl) argsQ (fun h hE => h.ext hE) law hval hW hsz hS hG
theorem closed : joinedFacts Tryd.pinned.checked.prog 12 Tryd.f12 Rows.fnExactMergeSpec Rows.fnExactMergeRow = true := by
  unfold joinedFacts
  repeat' (with_reducible refine Amu.Facts.andI ?_ ?_)
  · as_aux_lemma => kernel_rfl
  · exact Amu.Facts.laidOut
  · exact Amu.Facts.mapsRow
  · as_aux_lemma => kernel_rfl
  · as_aux_lemma => kernel_rfl
  · as_aux_lemma => kernel_rfl
  · as_aux_lemma => kernel_rfl
  · as_aux_lemma => kernel_rfl
  · as_aux_lemma => kernel_rfl
  · as_aux_lemma => kernel_rfl
  · as_aux_lemma => kernel_rfl
  · as_aux_lemma => kernel_rfl
  · as_aux_lemma => kernel_rfl
  · as_aux_lemma => kernel_rfl
  · as_aux_lemma => kernel_rfl
  · as_aux_lemma => kernel_rfl
  · as_aux_lemma => kernel_rfl
  · as_aux_lemma => kernel_rfl
  · as_aux_lemma => kernel_rfl
  · as_aux_lemma => kernel_rfl
  · as_aux_lemma => kernel_rfl
  · as_aux_lemma => kernel_rfl
  · exact Amu.Facts.plainK
  · as_aux_lemma => kernel_rfl
  · exact Amu.Facts.stopsH
  · exact Amu.Facts.mayE
  · exact Amu.Facts.lifts
  · as_aux_lemma => kernel_rfl
  · as_aux_lemma => kernel_rfl
  · as_aux_lemma => kernel_rfl
  · as_aux_lemma => kernel_rfl
  · as_aux_lemma => kernel_rfl
theorem over : Rows.fnExactMergeRow.holds Tryd.pinned (OpenSpec.ofChange Rows.fnExactMergeSpec) :=
  OpenClaim.holds_of_wide 12 Tryd.f12 rfl rfl rfl rfl rfl rfl rfl ⟨rfl, rfl, rfl, rfl, rfl⟩ rfl rfl rfl rfl rfl (by kernel_rfl) Tryd.func12 closed
    (of_decide_eq_true (by kernel_rfl)) (by unfold Func.isWrapper; first | (rw [if_pos (by decide +kernel)]; kernel_rfl) | (rw [if_neg (by decide +kernel)]; exact ⟨rfl, rfl⟩))
    (fun os started H enc _ => lifted os started H enc)
theorem card : Claim7.holds Tryd.pinned (.plain (OpenSpec.ofChange Rows.fnExactMergeSpec)) Rows.fnExactMergeCard :=
  Claim7.holds_tied_plain_at .later [] [.data] true (true, "586f7642ff347e89a38fc550382623073d5788cb860115320908d46d3308401e") false
    over (fun _ h => by cases h) (by kernel_rfl) (fun _ h => by cases h) fnExactMerge_row_tie rfl ⟨rfl, rfl⟩ (by kernel_rfl) rfl
    (fun f fn hf hfn => by
      obtain rfl : f = 12 := Option.some.inj ((show Tryd.prog.funcNamed "loop.example/kilntrace/laws.FnExactMerge" = some 12 by kernel_rfl).symm.trans hf) |>.symm
      obtain rfl : fn = Tryd.f12 := (Option.some.inj (Tryd.func12.symm.trans hfn)).symm
      exact ⟨by kernel_rfl, fun j t ht => by
        rw [Tryd.params12] at ht
        have hm : t ∈ [50, 50] := by simpa using Array.mem_of_getElem? ht
        have hall : ([50, 50].all fun u => !Tryd.prog.wantsStandIn u) = true := by kernel_rfl
        exact (show Tryd.prog.wantsStandIn t = false by simpa using List.all_eq_true.1 hall t hm)⟩)
    (by kernel_rfl)
end Go.Proofs.YtcdnlghlbljopaaDoor.fnExactMerge
namespace Go.Proofs.YtcdnlghlbljopaaDoor
/-- The row, under a short name, for the claim. -/
theorem fnExactMerge_holds : Rows.FnExactMergeCardSaid := fnExactMerge.card
#print axioms fnExactMerge_holds
end Go.Proofs.YtcdnlghlbljopaaDoor
