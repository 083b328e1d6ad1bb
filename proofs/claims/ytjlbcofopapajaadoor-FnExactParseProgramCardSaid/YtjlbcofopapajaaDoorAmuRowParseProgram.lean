import Derived.Test.YtjlbcofopapajaaDoorRows
import Derived.Test.YtjlbcofopapajaaDoorCards
import Derived.Test.YtjlbcofopapajaaDoorTie
import Derived.Test.YtjlbcofopapajaaDoorAmuFacts
import Derived.Test.YtjlbcofopapajaaDoorAmuLParseProgram
import Derived.WalkKit
import Derived.ProofKit
import Derived.OpenShut
import Derived.SizedLaws
import Derived.LaidMore
import Derived.Stop.Joined
import Derived.SevenTiedAt
namespace Go.Proofs.YtjlbcofopapajaaDoor.fnExactParseProgram
open Go Go.ChangeShapes Go.WideShapes Go.ChangeAt Go.RowKit Go.AM
set_option linter.unusedVariables false
set_option maxRecDepth 100000
set_option maxHeartbeats 4000000
set_option linter.defProp false
def argsL := (ArgsL.cons (ArgL.cell (LayT.str Tryd.underlying9 (by kernel_rfl)) (okWide_cells_str Tryd.underlying9) rfl) (ArgsL.nil) : ArgsL Tryd.prog [9] _)
def argQ (A : AH) (us : List Value) : Prop := ∃ (x0 : ByteArray) (u0 : Value) (us1 : List Value), us = u0 :: us1 ∧ Cell1 A x0 u0 ∧ (x0.size ≤ reachBytes) ∧ us1 = []
theorem argsQ : ArgsL Tryd.prog [9] argQ := argsL
theorem law (A : AH) (us : List Value) (hG : TabPowE 0 1 3 4 A) (hQ : argQ A us) : ACalls Tryd.prog A.size (PrsX 151 232 252 300 3 4 A.size) 7 us A (fun r _ => r = .ret (.bool true)) := by
 obtain ⟨x0, u0, _, rfl, h0, z0, rfl⟩ := hQ
 obtain ⟨F0, r0⟩ := h0
 obtain rfl := (List.cons.inj r0.1).1
 exact Amu.LParseProgram.law_a A (Nat.le_refl _) hG.1.1 hG.1.2 hG.2.1 hG.2.2 (fun _ _ _ _ _ h => h) x0 (Nat.lt_of_le_of_lt z0 (by decide))
theorem lifted (os : Os) (started : os.Started) (H : Type) (enc : TypeId × Value → H) :
 ReturnsInHanded {} Tryd.checked os 7 .any (fun w args => (Rows.fnExactParseProgramSpec.pre enc Tryd.prog Tryd.f7 [] false w args ∧ laidMetH Tryd.prog Amu.Facts.laid0 w) ∧ sizedMet enc Tryd.prog Tryd.f7 (OpenSpec.ofChange Rows.fnExactParseProgramSpec) false w args)
  (Rows.fnExactParseProgramSpec.post enc Tryd.prog Tryd.f7 false true false false) := by
 refine returnsInHanded_of_change_and (C := Tryd.checked) (X := fun w _ => laidMetH Tryd.prog Amu.Facts.laid0 w) (fun _ _ _ hh h => h.of_heap hh) Amu.Facts.own started (by kernel_rfl) Tryd.func7
  (ChangeSpec.witness_shaped (enc := enc) (C := Tryd.checked) (os := os) (X := fun w _ => laidMetH Tryd.prog Amu.Facts.laid0 w) false (World.laidAll Tryd.prog os Amu.Facts.laid0) #[.string ByteArray.empty] 8 (World.laidAll_os _ _ _) (Amu.Facts.sh0 os _) (by as_aux_lemma => kernel_rfl) (by as_aux_lemma => kernel_rfl) (by as_aux_lemma => kernel_rfl) (Amu.Facts.door_met0 os _)) ?_
 intro W base args ds gs before hval hW _ hsz hL _
 obtain ⟨m, A, hS, hG⟩ := Amu.Facts.start0 hL
 exact law_returns (X := fun ro => PrsX 151 232 252 300 3 4 ro) (ts := [9]) (G := TabPowE 0 1 3 4) (Q := argQ) (tb := 4) Tryd.func7 rfl (by kernel_rfl) Amu.Facts.mixed Amu.PrsS.sound (by kernel_rfl) (by kernel_rfl) Tryd.underlying4 Amu.Facts.laidOut (by kernel_rfl) (by kernel_rfl)
  (fun H ds gs hd hg => by
    match ds, hd with
    | [_], _ => match gs, hg with
      | [_], _ => rfl) argsQ (fun h hE => h.ext hE) law hval hW hsz hS hG
theorem closed : joinedFacts Tryd.pinned.checked.prog 7 Tryd.f7 Rows.fnExactParseProgramSpec Rows.fnExactParseProgramRow = true := by
 unfold joinedFacts
 repeat' (with_reducible refine Amu.Facts.andI ?_ ?_)
 ·as_aux_lemma => kernel_rfl
 ·exact Amu.Facts.laidOut
 ·exact Amu.Facts.mapsRow
 ·as_aux_lemma => kernel_rfl
 ·as_aux_lemma => kernel_rfl
 ·as_aux_lemma => kernel_rfl
 ·as_aux_lemma => kernel_rfl
 ·as_aux_lemma => kernel_rfl
 ·as_aux_lemma => kernel_rfl
 ·as_aux_lemma => kernel_rfl
 ·as_aux_lemma => kernel_rfl
 ·as_aux_lemma => kernel_rfl
 ·as_aux_lemma => kernel_rfl
 ·as_aux_lemma => kernel_rfl
 ·as_aux_lemma => kernel_rfl
 ·as_aux_lemma => kernel_rfl
 ·as_aux_lemma => kernel_rfl
 ·as_aux_lemma => kernel_rfl
 ·as_aux_lemma => kernel_rfl
 ·as_aux_lemma => kernel_rfl
 ·as_aux_lemma => kernel_rfl
 ·as_aux_lemma => kernel_rfl
 ·exact Amu.Facts.plainK
 ·as_aux_lemma => kernel_rfl
 ·exact Amu.Facts.stopsH
 ·exact Amu.Facts.mayE
 ·exact Amu.Facts.lifts
 ·as_aux_lemma => kernel_rfl
 ·as_aux_lemma => kernel_rfl
 ·as_aux_lemma => kernel_rfl
 ·as_aux_lemma => kernel_rfl
 ·as_aux_lemma => kernel_rfl
theorem over : Rows.fnExactParseProgramRow.holds Tryd.pinned (OpenSpec.ofChange Rows.fnExactParseProgramSpec) :=
 OpenClaim.holds_of_wide 7 Tryd.f7 rfl rfl rfl rfl rfl rfl rfl ⟨rfl, rfl, rfl, rfl, rfl⟩ rfl rfl rfl rfl rfl (by kernel_rfl) Tryd.func7 closed
  (of_decide_eq_true (by kernel_rfl)) (by unfold Func.isWrapper; first | (rw [if_pos (by decide +kernel)]; kernel_rfl) | (rw [if_neg (by decide +kernel)]; exact ⟨rfl, rfl⟩))
  (fun os started H enc _ => lifted os started H enc)
theorem card : Claim7.holds Tryd.pinned (.plain (OpenSpec.ofChange Rows.fnExactParseProgramSpec)) Rows.fnExactParseProgramCard :=
 Claim7.holds_tied_plain_at .later [] [.data, .data, .data, .data, .sentinel, .sentinel, .data, .pinned] true (true, "51549e53c7d523cc35051e099bbaa4ab5d15214d387d17cda168417e55ff9d31") true
  over (fun _ h => by cases h) (by kernel_rfl) (fun _ h => by cases h) fnExactParseProgram_row_tie rfl ⟨rfl, rfl⟩ (by kernel_rfl) rfl
  (fun f fn hf hfn => by
    obtain rfl : f = 7 := Option.some.inj ((show Tryd.prog.funcNamed "loop.example/kilntrace/laws.FnExactParseProgram" = some 7 by kernel_rfl).symm.trans hf) |>.symm
    obtain rfl : fn = Tryd.f7 := (Option.some.inj (Tryd.func7.symm.trans hfn)).symm
    exact ⟨by kernel_rfl, fun j t ht => by
     rw [Tryd.params7] at ht
     have hm : t ∈ [9] := by simpa using Array.mem_of_getElem? ht
     have hall : ([9].all fun u => !Tryd.prog.wantsStandIn u) = true := by kernel_rfl
     exact (show Tryd.prog.wantsStandIn t = false by simpa using List.all_eq_true.1 hall t hm)⟩)
  (by kernel_rfl)
end Go.Proofs.YtjlbcofopapajaaDoor.fnExactParseProgram
namespace Go.Proofs.YtjlbcofopapajaaDoor
theorem fnExactParseProgram_holds : Rows.FnExactParseProgramCardSaid := fnExactParseProgram.card
#print axioms fnExactParseProgram_holds
end Go.Proofs.YtjlbcofopapajaaDoor
