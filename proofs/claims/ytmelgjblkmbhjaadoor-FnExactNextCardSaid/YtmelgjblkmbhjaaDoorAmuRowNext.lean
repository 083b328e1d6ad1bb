/- FnExactNext: whatever the input, the law returns true. -/
import Derived.Test.YtmelgjblkmbhjaaDoorRows
import Derived.Test.YtmelgjblkmbhjaaDoorCards
import Derived.Test.YtmelgjblkmbhjaaDoorTie
import Derived.Test.YtmelgjblkmbhjaaDoorAmuFacts
import Derived.Test.YtmelgjblkmbhjaaDoorAmuLNext
import Derived.WalkKit
import Derived.ProofKit
import Derived.OpenShut
import Derived.SizedLaws
import Derived.LaidMore
import Derived.Stop.Joined
import Derived.SevenTiedAt
namespace Go.Proofs.YtmelgjblkmbhjaaDoor.fnExactNext
open Go Go.ChangeShapes Go.WideShapes Go.ChangeAt Go.RowKit Go.AM
set_option linter.unusedVariables false
set_option maxRecDepth 100000
set_option maxHeartbeats 4000000
set_option linter.defProp false
def argsL := (ArgsL.cons (ArgL.struct (LayT.struct Tryd.underlying24 (by kernel_rfl) (LayF.one (LayT.slice (LayT.struct Tryd.underlying197 (by kernel_rfl) (LayF.cons (LayT.int Tryd.underlying3 (by kernel_rfl)) (LayF.cons (LayT.str Tryd.underlying9 (by kernel_rfl)) (LayF.one (LayT.int Tryd.underlying3 (by kernel_rfl)))))) Tryd.underlying22 (by kernel_rfl) (of_decide_eq_true (by kernel_rfl)) (by decide)))) Tryd.underlying24) (ArgsL.cons (ArgL.cell (LayT.slice (LayT.struct Tryd.underlying119 (by kernel_rfl) (LayF.cons (LayT.bool Tryd.underlying4 (by kernel_rfl)) (LayF.cons (LayT.int Tryd.underlying3 (by kernel_rfl)) (LayF.one (LayT.str Tryd.underlying9 (by kernel_rfl)))))) Tryd.underlying33 (by kernel_rfl) (of_decide_eq_true (by kernel_rfl)) (by decide)) (okWide_cells_slice Tryd.underlying33) rfl) (ArgsL.nil)) : ArgsL Tryd.prog [24, 33] _)
def argQ (A : AH) (us : List Value) : Prop := ∃ (x0 : (List ((Int) × (ByteArray) × (Int)))) (u0 : Value) (us1 : List Value), us = u0 :: us1 ∧ CellN A x0 u0 ∧ ((x0.length ≤ reachBytes ∧ ∀ v : (Int) × (ByteArray) × (Int), v ∈ x0 → ((-9223372036854775808 ≤ v.1 ∧ v.1 ≤ 9223372036854775807) ∧ (v.2.1.size ≤ reachBytes) ∧ (-9223372036854775808 ≤ v.2.2 ∧ v.2.2 ≤ 9223372036854775807)))) ∧ ∃ (x1 : List ((Bool) × (Int) × (ByteArray))) (u1 : Value) (us2 : List Value), us1 = u1 :: us2 ∧ Cell1 A x1 u1 ∧ (x1.length ≤ reachBytes ∧ ∀ v : (Bool) × (Int) × (ByteArray), v ∈ x1 → ((True) ∧ (-9223372036854775808 ≤ v.2.1 ∧ v.2.1 ≤ 9223372036854775807) ∧ (v.2.2.size ≤ reachBytes))) ∧ us2 = []
theorem argsQ : ArgsL Tryd.prog [24, 33] argQ := argsL
theorem law (A : AH) (us : List Value) (hG : TabPow 0 1 A) (hQ : argQ A us) : ACalls Tryd.prog A.size (fun _ _ _ _ _ => False) 4 us A (fun r _ => r = .ret (.bool true)) := by
  obtain ⟨x0, u0, _, rfl, h0, z0, x1, u1, _, rfl, h1, z1, rfl⟩ := hQ
  obtain ⟨c0, F0, rfl, r0⟩ := h0
  obtain ⟨F1, s1, e1, r1⟩ := h1
  cases e1
  exact Amu.LNext.law_a A (Nat.le_refl _) hG.1 hG.2 x0 c0 F0 r0 ((fun h => ⟨Nat.lt_of_le_of_lt h.1 (by decide), fun v hv => (fun h => ⟨(fun _ => trivial) h.1, (fun h => ⟨(fun h => Nat.lt_of_le_of_lt h (by decide)) h.1, (fun _ => trivial) h.2⟩) h.2⟩) (h.2 v hv)⟩) z0) s1 x1 F1 r1 ((fun h => ⟨Nat.lt_of_le_of_lt h.1 (by decide), fun v hv => (fun h => ⟨(fun _ => trivial) h.1, (fun h => ⟨(fun _ => trivial) h.1, (fun h => Nat.lt_of_le_of_lt h (by decide)) h.2⟩) h.2⟩) (h.2 v hv)⟩) z1)
theorem lifted (os : Os) (started : os.Started) (H : Type) (enc : TypeId × Value → H) :
    ReturnsInHanded {} Tryd.checked os 4 .any (fun w args => (Rows.fnExactNextSpec.pre enc Tryd.prog Tryd.f4 [] false w args ∧ laidMetH Tryd.prog Amu.Facts.laid0 w) ∧ sizedMet enc Tryd.prog Tryd.f4 (OpenSpec.ofChange Rows.fnExactNextSpec) false w args)
      (Rows.fnExactNextSpec.post enc Tryd.prog Tryd.f4 false true false false) := by
  refine returnsInHanded_of_change_and (C := Tryd.checked) (X := fun w _ => laidMetH Tryd.prog Amu.Facts.laid0 w) (fun _ _ _ hh h => h.of_heap hh) Amu.Facts.own started (by kernel_rfl) Tryd.func4
    (ChangeSpec.witness_shaped (enc := enc) (C := Tryd.checked) (os := os) (X := fun w _ => laidMetH Tryd.prog Amu.Facts.laid0 w) false (World.doorLaid Tryd.prog 400 os) #[.agg #[.slice none 0 0], .slice none 0 0] 8 rfl (Amu.Facts.door_shaped os _) (by as_aux_lemma => kernel_rfl) (by as_aux_lemma => kernel_rfl) (by as_aux_lemma => kernel_rfl) (Amu.Facts.door_met0 os _)) ?_
  intro W base args ds gs before hval hW _ hsz hL _
  obtain ⟨m, A, hS, hG⟩ := Amu.Facts.start0 hL
  exact law_returns (X := fun _ _ _ _ _ => False) (ts := [24, 33]) (G := TabPow 0 1) (Q := argQ) (tb := 4) Tryd.func4 rfl (by kernel_rfl) Amu.Facts.mixed (fun _ _ _ _ _ _ _ _ h => h.elim) (by kernel_rfl) (by kernel_rfl) Tryd.underlying4 Amu.Facts.laidOut (by kernel_rfl) (by kernel_rfl)
    (fun H ds gs hd hg => by
      match ds, hd with
      | [_, _], _ => match gs, hg with
        | [_], _ => rfl) argsQ (fun h hE => h.ext hE) law hval hW hsz hS hG
theorem closed : joinedFacts Tryd.pinned.checked.prog 4 Tryd.f4 Rows.fnExactNextSpec Rows.fnExactNextRow = true := by
  unfold joinedFacts
  repeat' (with_reducible refine Amu.Facts.andI ?_ ?_)
  · as_aux_lemma => kernel_rfl
  · exact Amu.Facts.laidOut
  · exact Amu.Facts.mapsRow
  · as_aux_lemma => kernel_rfl
  · as_aux_lemma => kernel_rfl
  · as_aux_lemma => kernel_rfl
  · as_aux_lemma => kernel_rfl
  · as_aux_lemma => kernel_rfl
  · as_aux_lemma => kernel_rfl
  · as_aux_lemma => kernel_rfl
  · as_aux_lemma => kernel_rfl
  · as_aux_lemma => kernel_rfl
  · as_aux_lemma => kernel_rfl
  · as_aux_lemma => kernel_rfl
  · as_aux_lemma => kernel_rfl
  · as_aux_lemma => kernel_rfl
  · as_aux_lemma => kernel_rfl
  · as_aux_lemma => kernel_rfl
  · as_aux_lemma => kernel_rfl
  · as_aux_lemma => kernel_rfl
  · as_aux_lemma => kernel_rfl
  · as_aux_lemma => kernel_rfl
  · exact Amu.Facts.plainK
  · as_aux_lemma => kernel_rfl
  · exact Amu.Facts.stopsH
  · exact Amu.Facts.mayE
  · exact Amu.Facts.lifts
  · as_aux_lemma => kernel_rfl
  · as_aux_lemma => kernel_rfl
  · as_aux_lemma => kernel_rfl
  · as_aux_lemma => kernel_rfl
  · as_aux_lemma => kernel_rfl
theorem over : Rows.fnExactNextRow.holds Tryd.pinned (OpenSpec.ofChange Rows.fnExactNextSpec) :=
  OpenClaim.holds_of_wide 4 Tryd.f4 rfl rfl rfl rfl rfl rfl rfl ⟨rfl, rfl, rfl, rfl, rfl⟩ rfl rfl rfl rfl rfl (by kernel_rfl) Tryd.func4 closed
    (of_decide_eq_true (by kernel_rfl)) (by unfold Func.isWrapper; first | (rw [if_pos (by decide +kernel)]; kernel_rfl) | (rw [if_neg (by decide +kernel)]; exact ⟨rfl, rfl⟩))
    (fun os started H enc _ => lifted os started H enc)
theorem card : Claim7.holds Tryd.pinned (.plain (OpenSpec.ofChange Rows.fnExactNextSpec)) Rows.fnExactNextCard :=
  Claim7.holds_tied_plain_at .later [] [.data, .data, .data, .data] true (true, "446b1630276c795e67323f3b8919a7d45666cd387dd9f6f75f205a1f036d3f2f") true
    over (fun _ h => by cases h) (by kernel_rfl) (fun _ h => by cases h) fnExactNext_row_tie rfl ⟨rfl, rfl⟩ (by kernel_rfl) rfl
    (fun f fn hf hfn => by
      obtain rfl : f = 4 := Option.some.inj ((show Tryd.prog.funcNamed "loop.example/kilntrace/laws.FnExactNext" = some 4 by kernel_rfl).symm.trans hf) |>.symm
      obtain rfl : fn = Tryd.f4 := (Option.some.inj (Tryd.func4.symm.trans hfn)).symm
      exact ⟨by kernel_rfl, fun j t ht => by
        rw [Tryd.params4] at ht
        have hm : t ∈ [24, 33] := by simpa using Array.mem_of_getElem? ht
        have hall : ([24, 33].all fun u => !Tryd.prog.wantsStandIn u) = true := by kernel_rfl
        exact (show Tryd.prog.wantsStandIn t = false by simpa using List.all_eq_true.1 hall t hm)⟩)
    (by kernel_rfl)
end Go.Proofs.YtmelgjblkmbhjaaDoor.fnExactNext
namespace Go.Proofs.YtmelgjblkmbhjaaDoor
/-- The row, under a short name, for the claim. -/
theorem fnExactNext_holds : Rows.FnExactNextCardSaid := fnExactNext.card
#print axioms fnExactNext_holds
end Go.Proofs.YtmelgjblkmbhjaaDoor
