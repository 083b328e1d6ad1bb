import Derived.Test.YtjlbcofopapajaaDoorRows
import Derived.Test.YtjlbcofopapajaaDoorCards
import Derived.Test.YtjlbcofopapajaaDoorTie
import Derived.Test.YtjlbcofopapajaaDoorAmuFacts
import Derived.Test.YtjlbcofopapajaaDoorAmuLPrintProgram
import Derived.WalkKit
import Derived.ProofKit
import Derived.OpenShut
import Derived.SizedLaws
import Derived.LaidMore
import Derived.Stop.Joined
import Derived.SevenTiedAt
namespace Go.Proofs.YtjlbcofopapajaaDoor.fnExactPrintProgram
open Go Go.ChangeShapes Go.WideShapes Go.ChangeAt Go.RowKit Go.AM
set_option linter.unusedVariables false
set_option maxRecDepth 100000
set_option maxHeartbeats 4000000
set_option linter.defProp false
def argsL := (ArgsL.cons (ArgL.struct (LayT.struct Tryd.underlying24 (by kernel_rfl) (LayF.one (LayT.slice (LayT.struct Tryd.underlying183 (by kernel_rfl) (LayF.cons (LayT.int Tryd.underlying3 (by kernel_rfl)) (LayF.cons (LayT.str Tryd.underlying9 (by kernel_rfl)) (LayF.one (LayT.int Tryd.underlying3 (by kernel_rfl)))))) Tryd.underlying22 (by kernel_rfl) (of_decide_eq_true (by kernel_rfl)) (by decide)))) Tryd.underlying24) (ArgsL.nil) : ArgsL Tryd.prog [24] _)
def argQ (A : AH) (us : List Value) : Prop := ∃ (x0 : (List ((Int) × (ByteArray) × (Int)))) (u0 : Value) (us1 : List Value), us = u0 :: us1 ∧ CellN A x0 u0 ∧ ((x0.length ≤ reachBytes ∧ ∀ v : (Int) × (ByteArray) × (Int), v ∈ x0 → ((-9223372036854775808 ≤ v.1 ∧ v.1 ≤ 9223372036854775807) ∧ (v.2.1.size ≤ reachBytes) ∧ (-9223372036854775808 ≤ v.2.2 ∧ v.2.2 ≤ 9223372036854775807)))) ∧ us1 = []
theorem argsQ : ArgsL Tryd.prog [24] argQ := argsL
theorem law (A : AH) (us : List Value) (hG : TabPow 0 1 A) (hQ : argQ A us) : ACalls Tryd.prog A.size (BldX 120 54 101 5 A.size) 3 us A (fun r _ => r = .ret (.bool true)) := by
 obtain ⟨x0, u0, _, rfl, h0, z0, rfl⟩ := hQ
 obtain ⟨c0, F0, rfl, r0⟩ := h0
 exact Amu.LPrintProgram.law_a A (Nat.le_refl _) hG.1 hG.2 (fun _ _ _ _ _ h => h) x0 c0 F0 r0 ((fun h => ⟨Nat.lt_of_le_of_lt h.1 (by decide), fun v hv => (fun h => ⟨(fun _ => trivial) h.1, (fun h => ⟨(fun h => Nat.lt_of_le_of_lt h (by decide)) h.1, (fun _ => trivial) h.2⟩) h.2⟩) (h.2 v hv)⟩) z0)
theorem lifted (os : Os) (started : os.Started) (H : Type) (enc : TypeId × Value → H) :
 ReturnsInHanded {} Tryd.checked os 3 .any (fun w args => (Rows.fnExactPrintProgramSpec.pre enc Tryd.prog Tryd.f3 [] false w args ∧ laidMetH Tryd.prog Amu.Facts.laid0 w) ∧ sizedMet enc Tryd.prog Tryd.f3 (OpenSpec.ofChange Rows.fnExactPrintProgramSpec) false w args)
  (Rows.fnExactPrintProgramSpec.post enc Tryd.prog Tryd.f3 false true false false) := by
 refine returnsInHanded_of_change_and (C := Tryd.checked) (X := fun w _ => laidMetH Tryd.prog Amu.Facts.laid0 w) (fun _ _ _ hh h => h.of_heap hh) Amu.Facts.own started (by kernel_rfl) Tryd.func3
  (ChangeSpec.witness_shaped (enc := enc) (C := Tryd.checked) (os := os) (X := fun w _ => laidMetH Tryd.prog Amu.Facts.laid0 w) false (World.doorLaid Tryd.prog 400 os) #[.agg #[.slice none 0 0]] 8 rfl (Amu.Facts.door_shaped os _) (by as_aux_lemma => kernel_rfl) (by as_aux_lemma => kernel_rfl) (by as_aux_lemma => kernel_rfl) (Amu.Facts.door_met0 os _)) ?_
 intro W base args ds gs before hval hW _ hsz hL _
 obtain ⟨m, A, hS, hG⟩ := Amu.Facts.start0 hL
 exact law_returns (X := fun ro => BldX 120 54 101 5 ro) (ts := [24]) (G := TabPow 0 1) (Q := argQ) (tb := 4) Tryd.func3 rfl (by kernel_rfl) Amu.Facts.mixed Amu.BldS.sound (by kernel_rfl) (by kernel_rfl) Tryd.underlying4 Amu.Facts.laidOut (by kernel_rfl) (by kernel_rfl)
  (fun H ds gs hd hg => by
    match ds, hd with
    | [_], _ => match gs, hg with
      | [_], _ => rfl) argsQ (fun h hE => h.ext hE) law hval hW hsz hS hG
theorem closed : joinedFacts Tryd.pinned.checked.prog 3 Tryd.f3 Rows.fnExactPrintProgramSpec Rows.fnExactPrintProgramRow = true := by
 unfold joinedFacts
 repeat' (with_reducible refine Amu.Facts.andI ?_ ?_)
 ·as_aux_lemma => kernel_rfl
 ·exact Amu.Facts.laidOut
 ·exact Amu.Facts.mapsRow
 ·as_aux_lemma => kernel_rfl
 ·as_aux_lemma => kernel_rfl
 ·as_aux_lemma => kernel_rfl
 ·as_aux_lemma => kernel_rfl
 ·as_aux_lemma => kernel_rfl
 ·as_aux_lemma => kernel_rfl
 ·as_aux_lemma => kernel_rfl
 ·as_aux_lemma => kernel_rfl
 ·as_aux_lemma => kernel_rfl
 ·as_aux_lemma => kernel_rfl
 ·as_aux_lemma => kernel_rfl
 ·as_aux_lemma => kernel_rfl
 ·as_aux_lemma => kernel_rfl
 ·as_aux_lemma => kernel_rfl
 ·as_aux_lemma => kernel_rfl
 ·as_aux_lemma => kernel_rfl
 ·as_aux_lemma => kernel_rfl
 ·as_aux_lemma => kernel_rfl
 ·as_aux_lemma => kernel_rfl
 ·exact Amu.Facts.plainK
 ·as_aux_lemma => kernel_rfl
 ·exact Amu.Facts.stopsH
 ·exact Amu.Facts.mayE
 ·exact Amu.Facts.lifts
 ·as_aux_lemma => kernel_rfl
 ·as_aux_lemma => kernel_rfl
 ·as_aux_lemma => kernel_rfl
 ·as_aux_lemma => kernel_rfl
 ·as_aux_lemma => kernel_rfl
theorem over : Rows.fnExactPrintProgramRow.holds Tryd.pinned (OpenSpec.ofChange Rows.fnExactPrintProgramSpec) :=
 OpenClaim.holds_of_wide 3 Tryd.f3 rfl rfl rfl rfl rfl rfl rfl ⟨rfl, rfl, rfl, rfl, rfl⟩ rfl rfl rfl rfl rfl (by kernel_rfl) Tryd.func3 closed
  (of_decide_eq_true (by kernel_rfl)) (by unfold Func.isWrapper; first | (rw [if_pos (by decide +kernel)]; kernel_rfl) | (rw [if_neg (by decide +kernel)]; exact ⟨rfl, rfl⟩))
  (fun os started H enc _ => lifted os started H enc)
theorem card : Claim7.holds Tryd.pinned (.plain (OpenSpec.ofChange Rows.fnExactPrintProgramSpec)) Rows.fnExactPrintProgramCard :=
 Claim7.holds_tied_plain_at .later [] [.data, .data, .data, .data] true (true, "51549e53c7d523cc35051e099bbaa4ab5d15214d387d17cda168417e55ff9d31") true
  over (fun _ h => by cases h) (by kernel_rfl) (fun _ h => by cases h) fnExactPrintProgram_row_tie rfl ⟨rfl, rfl⟩ (by kernel_rfl) rfl
  (fun f fn hf hfn => by
    obtain rfl : f = 3 := Option.some.inj ((show Tryd.prog.funcNamed "loop.example/kilntrace/laws.FnExactPrintProgram" = some 3 by kernel_rfl).symm.trans hf) |>.symm
    obtain rfl : fn = Tryd.f3 := (Option.some.inj (Tryd.func3.symm.trans hfn)).symm
    exact ⟨by kernel_rfl, fun j t ht => by
     rw [Tryd.params3] at ht
     have hm : t ∈ [24] := by simpa using Array.mem_of_getElem? ht
     have hall : ([24].all fun u => !Tryd.prog.wantsStandIn u) = true := by kernel_rfl
     exact (show Tryd.prog.wantsStandIn t = false by simpa using List.all_eq_true.1 hall t hm)⟩)
  (by kernel_rfl)
end Go.Proofs.YtjlbcofopapajaaDoor.fnExactPrintProgram
namespace Go.Proofs.YtjlbcofopapajaaDoor
theorem fnExactPrintProgram_holds : Rows.FnExactPrintProgramCardSaid := fnExactPrintProgram.card
#print axioms fnExactPrintProgram_holds
end Go.Proofs.YtjlbcofopapajaaDoor
