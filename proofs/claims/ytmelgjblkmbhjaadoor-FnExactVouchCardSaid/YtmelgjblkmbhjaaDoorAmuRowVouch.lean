/- FnExactVouch: whatever the input, the law returns true. -/
import Derived.Test.YtmelgjblkmbhjaaDoorRows
import Derived.Test.YtmelgjblkmbhjaaDoorCards
import Derived.Test.YtmelgjblkmbhjaaDoorTie
import Derived.Test.YtmelgjblkmbhjaaDoorAmuFacts
import Derived.Test.YtmelgjblkmbhjaaDoorAmuLVouch
import Derived.WalkKit
import Derived.ProofKit
import Derived.OpenShut
import Derived.SizedLaws
import Derived.LaidMore
import Derived.Stop.Joined
import Derived.SevenTiedAt
namespace Go.Proofs.YtmelgjblkmbhjaaDoor.fnExactVouch
open Go Go.ChangeShapes Go.WideShapes Go.ChangeAt Go.RowKit Go.AM
set_option linter.unusedVariables false
set_option maxRecDepth 100000
set_option maxHeartbeats 4000000
set_option linter.defProp false
def argsL := (ArgsL.cons (ArgL.struct (LayT.struct Tryd.underlying46 (by kernel_rfl) (LayF.cons (LayT.int Tryd.underlying3 (by kernel_rfl)) (LayF.cons (LayT.slice (LayT.str Tryd.underlying9 (by kernel_rfl)) Tryd.underlying43 (by kernel_rfl) (of_decide_eq_true (by kernel_rfl)) (by decide)) (LayF.one (LayT.slice (LayT.struct Tryd.underlying81 (by kernel_rfl) (LayF.cons (LayT.struct Tryd.underlying24 (by kernel_rfl) (LayF.one (LayT.slice (LayT.struct Tryd.underlying197 (by kernel_rfl) (LayF.cons (LayT.int Tryd.underlying3 (by kernel_rfl)) (LayF.cons (LayT.str Tryd.underlying9 (by kernel_rfl)) (LayF.one (LayT.int Tryd.underlying3 (by kernel_rfl)))))) Tryd.underlying22 (by kernel_rfl) (of_decide_eq_true (by kernel_rfl)) (by decide)))) (LayF.cons (LayT.slice (LayT.struct Tryd.underlying246 (by kernel_rfl) (LayF.cons (LayT.str Tryd.underlying9 (by kernel_rfl)) (LayF.cons (LayT.bool Tryd.underlying4 (by kernel_rfl)) (LayF.one (LayT.str Tryd.underlying9 (by kernel_rfl)))))) Tryd.underlying79 (by kernel_rfl) (of_decide_eq_true (by kernel_rfl)) (by decide)) (LayF.one (LayT.str Tryd.underlying9 (by kernel_rfl)))))) Tryd.underlying44 (by kernel_rfl) (of_decide_eq_true (by kernel_rfl)) (by decide)))))) Tryd.underlying46) (ArgsL.cons (ArgL.struct (LayT.struct Tryd.underlying81 (by kernel_rfl) (LayF.cons (LayT.struct Tryd.underlying24 (by kernel_rfl) (LayF.one (LayT.slice (LayT.struct Tryd.underlying197 (by kernel_rfl) (LayF.cons (LayT.int Tryd.underlying3 (by kernel_rfl)) (LayF.cons (LayT.str Tryd.underlying9 (by kernel_rfl)) (LayF.one (LayT.int Tryd.underlying3 (by kernel_rfl)))))) Tryd.underlying22 (by kernel_rfl) (of_decide_eq_true (by kernel_rfl)) (by decide)))) (LayF.cons (LayT.slice (LayT.struct Tryd.underlying246 (by kernel_rfl) (LayF.cons (LayT.str Tryd.underlying9 (by kernel_rfl)) (LayF.cons (LayT.bool Tryd.underlying4 (by kernel_rfl)) (LayF.one (LayT.str Tryd.underlying9 (by kernel_rfl)))))) Tryd.underlying79 (by kernel_rfl) (of_decide_eq_true (by kernel_rfl)) (by decide)) (LayF.one (LayT.str Tryd.underlying9 (by kernel_rfl)))))) Tryd.underlying81) (ArgsL.nil)) : ArgsL Tryd.prog [46, 81] _)
def argQ (A : AH) (us : List Value) : Prop := ∃ (x0 : (Int) × (List (ByteArray)) × (List (((List ((Int) × (ByteArray) × (Int)))) × (List ((ByteArray) × (Bool) × (ByteArray))) × (ByteArray)))) (u0 : Value) (us1 : List Value), us = u0 :: us1 ∧ CellN A x0 u0 ∧ ((-9223372036854775808 ≤ x0.1 ∧ x0.1 ≤ 9223372036854775807) ∧ (x0.2.1.length ≤ reachBytes ∧ ∀ v : ByteArray, v ∈ x0.2.1 → (v.size ≤ reachBytes)) ∧ (x0.2.2.length ≤ reachBytes ∧ ∀ v : ((List ((Int) × (ByteArray) × (Int)))) × (List ((ByteArray) × (Bool) × (ByteArray))) × (ByteArray), v ∈ x0.2.2 → (((v.1.length ≤ reachBytes ∧ ∀ vv : (Int) × (ByteArray) × (Int), vv ∈ v.1 → ((-9223372036854775808 ≤ vv.1 ∧ vv.1 ≤ 9223372036854775807) ∧ (vv.2.1.size ≤ reachBytes) ∧ (-9223372036854775808 ≤ vv.2.2 ∧ vv.2.2 ≤ 9223372036854775807)))) ∧ (v.2.1.length ≤ reachBytes ∧ ∀ vv : (ByteArray) × (Bool) × (ByteArray), vv ∈ v.2.1 → ((vv.1.size ≤ reachBytes) ∧ (True) ∧ (vv.2.2.size ≤ reachBytes))) ∧ (v.2.2.size ≤ reachBytes)))) ∧ ∃ (x1 : ((List ((Int) × (ByteArray) × (Int)))) × (List ((ByteArray) × (Bool) × (ByteArray))) × (ByteArray)) (u1 : Value) (us2 : List Value), us1 = u1 :: us2 ∧ CellN A x1 u1 ∧ (((x1.1.length ≤ reachBytes ∧ ∀ v : (Int) × (ByteArray) × (Int), v ∈ x1.1 → ((-9223372036854775808 ≤ v.1 ∧ v.1 ≤ 9223372036854775807) ∧ (v.2.1.size ≤ reachBytes) ∧ (-9223372036854775808 ≤ v.2.2 ∧ v.2.2 ≤ 9223372036854775807)))) ∧ (x1.2.1.length ≤ reachBytes ∧ ∀ v : (ByteArray) × (Bool) × (ByteArray), v ∈ x1.2.1 → ((v.1.size ≤ reachBytes) ∧ (True) ∧ (v.2.2.size ≤ reachBytes))) ∧ (x1.2.2.size ≤ reachBytes)) ∧ us2 = []
theorem argsQ : ArgsL Tryd.prog [46, 81] argQ := argsL
theorem law (A : AH) (us : List Value) (hG : TabPow 0 1 A) (hQ : argQ A us) : ACalls Tryd.prog A.size (fun _ _ _ _ _ => False) 9 us A (fun r _ => r = .ret (.bool true)) := by
  obtain ⟨x0, u0, _, rfl, h0, z0, x1, u1, _, rfl, h1, z1, rfl⟩ := hQ
  obtain ⟨c0, F0, rfl, r0⟩ := h0
  obtain ⟨c1, F1, rfl, r1⟩ := h1
  exact Amu.LVouch.law_a A (Nat.le_refl _) hG.1 hG.2 x0 c0 F0 r0 ((fun h => ⟨(fun _ => trivial) h.1, (fun h => ⟨(fun h => ⟨Nat.lt_of_le_of_lt h.1 (by decide), fun v hv => (fun h => Nat.lt_of_le_of_lt h (by decide)) (h.2 v hv)⟩) h.1, (fun h => ⟨Nat.lt_of_le_of_lt h.1 (by decide), fun v hv => (fun h => ⟨(fun h => ⟨Nat.lt_of_le_of_lt h.1 (by decide), fun v hv => (fun h => ⟨(fun _ => trivial) h.1, (fun h => ⟨(fun h => Nat.lt_of_le_of_lt h (by decide)) h.1, (fun _ => trivial) h.2⟩) h.2⟩) (h.2 v hv)⟩) h.1, (fun h => ⟨(fun h => ⟨Nat.lt_of_le_of_lt h.1 (by decide), fun v hv => (fun h => ⟨(fun h => Nat.lt_of_le_of_lt h (by decide)) h.1, (fun h => ⟨(fun _ => trivial) h.1, (fun h => Nat.lt_of_le_of_lt h (by decide)) h.2⟩) h.2⟩) (h.2 v hv)⟩) h.1, (fun h => Nat.lt_of_le_of_lt h (by decide)) h.2⟩) h.2⟩) (h.2 v hv)⟩) h.2⟩) h.2⟩) z0) x1 c1 F1 r1 ((fun h => ⟨(fun h => ⟨Nat.lt_of_le_of_lt h.1 (by decide), fun v hv => (fun h => ⟨(fun _ => trivial) h.1, (fun h => ⟨(fun h => Nat.lt_of_le_of_lt h (by decide)) h.1, (fun _ => trivial) h.2⟩) h.2⟩) (h.2 v hv)⟩) h.1, (fun h => ⟨(fun h => ⟨Nat.lt_of_le_of_lt h.1 (by decide), fun v hv => (fun h => ⟨(fun h => Nat.lt_of_le_of_lt h (by decide)) h.1, (fun h => ⟨(fun _ => trivial) h.1, (fun h => Nat.lt_of_le_of_lt h (by decide)) h.2⟩) h.2⟩) (h.2 v hv)⟩) h.1, (fun h => Nat.lt_of_le_of_lt h (by decide)) h.2⟩) h.2⟩) z1)
theorem lifted (os : Os) (started : os.Started) (H : Type) (enc : TypeId × Value → H) :
    ReturnsInHanded {} Tryd.checked os 9 .any (fun w args => (Rows.fnExactVouchSpec.pre enc Tryd.prog Tryd.f9 [] false w args ∧ laidMetH Tryd.prog Amu.Facts.laid0 w) ∧ sizedMet enc Tryd.prog Tryd.f9 (OpenSpec.ofChange Rows.fnExactVouchSpec) false w args)
      (Rows.fnExactVouchSpec.post enc Tryd.prog Tryd.f9 false true false false) := by
  refine returnsInHanded_of_change_and (C := Tryd.checked) (X := fun w _ => laidMetH Tryd.prog Amu.Facts.laid0 w) (fun _ _ _ hh h => h.of_heap hh) Amu.Facts.own started (by kernel_rfl) Tryd.func9
    (ChangeSpec.witness_shaped (enc := enc) (C := Tryd.checked) (os := os) (X := fun w _ => laidMetH Tryd.prog Amu.Facts.laid0 w) false (World.doorLaid Tryd.prog 400 os) #[.agg #[.int .i64 0, .slice none 0 0, .slice none 0 0], .agg #[.slice none 0 0, .slice none 0 0, .string ByteArray.empty]] 8 rfl (Amu.Facts.door_shaped os _) (by as_aux_lemma => kernel_rfl) (by as_aux_lemma => kernel_rfl) (by as_aux_lemma => kernel_rfl) (Amu.Facts.door_met0 os _)) ?_
  intro W base args ds gs before hval hW _ hsz hL _
  obtain ⟨m, A, hS, hG⟩ := Amu.Facts.start0 hL
  exact law_returns (X := fun _ _ _ _ _ => False) (ts := [46, 81]) (G := TabPow 0 1) (Q := argQ) (tb := 4) Tryd.func9 rfl (by kernel_rfl) Amu.Facts.mixed (fun _ _ _ _ _ _ _ _ h => h.elim) (by kernel_rfl) (by kernel_rfl) Tryd.underlying4 Amu.Facts.laidOut (by kernel_rfl) (by kernel_rfl)
    (fun H ds gs hd hg => by
      match ds, hd with
      | [_, _], _ => match gs, hg with
        | [_], _ => rfl) argsQ (fun h hE => h.ext hE) law hval hW hsz hS hG
theorem closed : joinedFacts Tryd.pinned.checked.prog 9 Tryd.f9 Rows.fnExactVouchSpec Rows.fnExactVouchRow = true := by
  unfold joinedFacts
  repeat' (with_reducible refine Amu.Facts.andI ?_ ?_)
  · as_aux_lemma => kernel_rfl
  · exact Amu.Facts.laidOut
  · exact Amu.Facts.mapsRow
  · as_aux_lemma => kernel_rfl
  · as_aux_lemma => kernel_rfl
  · as_aux_lemma => kernel_rfl
  · as_aux_lemma => kernel_rfl
  · as_aux_lemma => kernel_rfl
  · as_aux_lemma => kernel_rfl
  · as_aux_lemma => kernel_rfl
  · as_aux_lemma => kernel_rfl
  · as_aux_lemma => kernel_rfl
  · as_aux_lemma => kernel_rfl
  · as_aux_lemma => kernel_rfl
  · as_aux_lemma => kernel_rfl
  · as_aux_lemma => kernel_rfl
  · as_aux_lemma => kernel_rfl
  · as_aux_lemma => kernel_rfl
  · as_aux_lemma => kernel_rfl
  · as_aux_lemma => kernel_rfl
  · as_aux_lemma => kernel_rfl
  · as_aux_lemma => kernel_rfl
  · exact Amu.Facts.plainK
  · as_aux_lemma => kernel_rfl
  · exact Amu.Facts.stopsH
  · exact Amu.Facts.mayE
  · exact Amu.Facts.lifts
  · as_aux_lemma => kernel_rfl
  · as_aux_lemma => kernel_rfl
  · as_aux_lemma => kernel_rfl
  · as_aux_lemma => kernel_rfl
  · as_aux_lemma => kernel_rfl
theorem over : Rows.fnExactVouchRow.holds Tryd.pinned (OpenSpec.ofChange Rows.fnExactVouchSpec) :=
  OpenClaim.holds_of_wide 9 Tryd.f9 rfl rfl rfl rfl rfl rfl rfl ⟨rfl, rfl, rfl, rfl, rfl⟩ rfl rfl rfl rfl rfl (by kernel_rfl) Tryd.func9 closed
    (of_decide_eq_true (by kernel_rfl)) (by unfold Func.isWrapper; first | (rw [if_pos (by decide +kernel)]; kernel_rfl) | (rw [if_neg (by decide +kernel)]; exact ⟨rfl, rfl⟩))
    (fun os started H enc _ => lifted os started H enc)
theorem card : Claim7.holds Tryd.pinned (.plain (OpenSpec.ofChange Rows.fnExactVouchSpec)) Rows.fnExactVouchCard :=
  Claim7.holds_tied_plain_at .later [] [.data, .data, .data, .data] true (true, "446b1630276c795e67323f3b8919a7d45666cd387dd9f6f75f205a1f036d3f2f") true
    over (fun _ h => by cases h) (by kernel_rfl) (fun _ h => by cases h) fnExactVouch_row_tie rfl ⟨rfl, rfl⟩ (by kernel_rfl) rfl
    (fun f fn hf hfn => by
      obtain rfl : f = 9 := Option.some.inj ((show Tryd.prog.funcNamed "loop.example/kilntrace/laws.FnExactVouch" = some 9 by kernel_rfl).symm.trans hf) |>.symm
      obtain rfl : fn = Tryd.f9 := (Option.some.inj (Tryd.func9.symm.trans hfn)).symm
      exact ⟨by kernel_rfl, fun j t ht => by
        rw [Tryd.params9] at ht
        have hm : t ∈ [46, 81] := by simpa using Array.mem_of_getElem? ht
        have hall : ([46, 81].all fun u => !Tryd.prog.wantsStandIn u) = true := by kernel_rfl
        exact (show Tryd.prog.wantsStandIn t = false by simpa using List.all_eq_true.1 hall t hm)⟩)
    (by kernel_rfl)
end Go.Proofs.YtmelgjblkmbhjaaDoor.fnExactVouch
namespace Go.Proofs.YtmelgjblkmbhjaaDoor
/-- The row, under a short name, for the claim. -/
theorem fnExactVouch_holds : Rows.FnExactVouchCardSaid := fnExactVouch.card
#print axioms fnExactVouch_holds
end Go.Proofs.YtmelgjblkmbhjaaDoor
