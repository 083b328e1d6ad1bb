import Derived.Test.YtjlbcofopapajaaDoorRows
import Derived.Test.YtjlbcofopapajaaDoorCards
import Derived.Test.YtjlbcofopapajaaDoorTie
import Derived.Test.YtjlbcofopapajaaDoorAmuFacts
import Derived.Test.YtjlbcofopapajaaDoorAmuLPutTarget
import Derived.WalkKit
import Derived.ProofKit
import Derived.OpenShut
import Derived.SizedLaws
import Derived.LaidMore
import Derived.Stop.Joined
import Derived.SevenTiedAt
namespace Go.Proofs.YtjlbcofopapajaaDoor.fnExactPutTarget
open Go Go.ChangeShapes Go.WideShapes Go.ChangeAt Go.RowKit Go.AM
set_option linter.unusedVariables false
set_option maxRecDepth 100000
set_option maxHeartbeats 4000000
set_option linter.defProp false
def argsL := (ArgsL.cons (ArgL.struct (LayT.struct Tryd.underlying48 (by kernel_rfl) (LayF.cons (LayT.slice (LayT.struct Tryd.underlying204 (by kernel_rfl) (LayF.cons (LayT.str Tryd.underlying9 (by kernel_rfl)) (LayF.one (LayT.str Tryd.underlying9 (by kernel_rfl))))) Tryd.underlying45 (by kernel_rfl) (of_decide_eq_true (by kernel_rfl)) (by decide)) (LayF.one (LayT.slice (LayT.struct Tryd.underlying207 (by kernel_rfl) (LayF.cons (LayT.str Tryd.underlying9 (by kernel_rfl)) (LayF.one (LayT.struct Tryd.underlying24 (by kernel_rfl) (LayF.one (LayT.slice (LayT.struct Tryd.underlying183 (by kernel_rfl) (LayF.cons (LayT.int Tryd.underlying3 (by kernel_rfl)) (LayF.cons (LayT.str Tryd.underlying9 (by kernel_rfl)) (LayF.one (LayT.int Tryd.underlying3 (by kernel_rfl)))))) Tryd.underlying22 (by kernel_rfl) (of_decide_eq_true (by kernel_rfl)) (by decide))))))) Tryd.underlying46 (by kernel_rfl) (of_decide_eq_true (by kernel_rfl)) (by decide))))) Tryd.underlying48) (ArgsL.cons (ArgL.cell (LayT.str Tryd.underlying9 (by kernel_rfl)) (okWide_cells_str Tryd.underlying9) rfl) (ArgsL.cons (ArgL.struct (LayT.struct Tryd.underlying24 (by kernel_rfl) (LayF.one (LayT.slice (LayT.struct Tryd.underlying183 (by kernel_rfl) (LayF.cons (LayT.int Tryd.underlying3 (by kernel_rfl)) (LayF.cons (LayT.str Tryd.underlying9 (by kernel_rfl)) (LayF.one (LayT.int Tryd.underlying3 (by kernel_rfl)))))) Tryd.underlying22 (by kernel_rfl) (of_decide_eq_true (by kernel_rfl)) (by decide)))) Tryd.underlying24) (ArgsL.nil))) : ArgsL Tryd.prog [48, 9, 24] _)
def argQ (A : AH) (us : List Value) : Prop := ∃ (x0 : (List ((ByteArray) × (ByteArray))) × (List ((ByteArray) × ((List ((Int) × (ByteArray) × (Int))))))) (u0 : Value) (us1 : List Value), us = u0 :: us1 ∧ CellN A x0 u0 ∧ ((x0.1.length ≤ reachBytes ∧ ∀ v : (ByteArray) × (ByteArray), v ∈ x0.1 → ((v.1.size ≤ reachBytes) ∧ (v.2.size ≤ reachBytes))) ∧ (x0.2.length ≤ reachBytes ∧ ∀ v : (ByteArray) × ((List ((Int) × (ByteArray) × (Int)))), v ∈ x0.2 → ((v.1.size ≤ reachBytes) ∧ ((v.2.length ≤ reachBytes ∧ ∀ vv : (Int) × (ByteArray) × (Int), vv ∈ v.2 → ((-9223372036854775808 ≤ vv.1 ∧ vv.1 ≤ 9223372036854775807) ∧ (vv.2.1.size ≤ reachBytes) ∧ (-9223372036854775808 ≤ vv.2.2 ∧ vv.2.2 ≤ 9223372036854775807))))))) ∧ ∃ (x1 : ByteArray) (u1 : Value) (us2 : List Value), us1 = u1 :: us2 ∧ Cell1 A x1 u1 ∧ (x1.size ≤ reachBytes) ∧ ∃ (x2 : (List ((Int) × (ByteArray) × (Int)))) (u2 : Value) (us3 : List Value), us2 = u2 :: us3 ∧ CellN A x2 u2 ∧ ((x2.length ≤ reachBytes ∧ ∀ v : (Int) × (ByteArray) × (Int), v ∈ x2 → ((-9223372036854775808 ≤ v.1 ∧ v.1 ≤ 9223372036854775807) ∧ (v.2.1.size ≤ reachBytes) ∧ (-9223372036854775808 ≤ v.2.2 ∧ v.2.2 ≤ 9223372036854775807)))) ∧ us3 = []
theorem argsQ : ArgsL Tryd.prog [48, 9, 24] argQ := argsL
theorem law (A : AH) (us : List Value) (hG : Tab 0 A) (hQ : argQ A us) : ACalls Tryd.prog A.size (SortX 80 [(51, 90, 1)] A.size) 6 us A (fun r _ => r = .ret (.bool true)) := by
 obtain ⟨x0, u0, _, rfl, h0, z0, x1, u1, _, rfl, h1, z1, x2, u2, _, rfl, h2, z2, rfl⟩ := hQ
 obtain ⟨c0, F0, rfl, r0⟩ := h0
 obtain ⟨F1, r1⟩ := h1
 obtain rfl := (List.cons.inj r1.1).1
 obtain ⟨c2, F2, rfl, r2⟩ := h2
 exact Amu.LPutTarget.law_a A (Nat.le_refl _) hG (fun _ _ _ _ _ h => h) x0 c0 F0 r0 ((fun h => ⟨(fun h => ⟨Nat.lt_of_le_of_lt h.1 (by decide), fun v hv => (fun h => ⟨(fun h => Nat.lt_of_le_of_lt h (by decide)) h.1, (fun h => Nat.lt_of_le_of_lt h (by decide)) h.2⟩) (h.2 v hv)⟩) h.1, (fun h => ⟨Nat.lt_of_le_of_lt h.1 (by decide), fun v hv => (fun h => ⟨(fun h => Nat.lt_of_le_of_lt h (by decide)) h.1, (fun h => ⟨Nat.lt_of_le_of_lt h.1 (by decide), fun v hv => (fun h => ⟨(fun _ => trivial) h.1, (fun h => ⟨(fun h => Nat.lt_of_le_of_lt h (by decide)) h.1, (fun _ => trivial) h.2⟩) h.2⟩) (h.2 v hv)⟩) h.2⟩) (h.2 v hv)⟩) h.2⟩) z0) x1 (Nat.lt_of_le_of_lt z1 (by decide)) x2 c2 F2 r2 ((fun h => ⟨Nat.lt_of_le_of_lt h.1 (by decide), fun v hv => (fun h => ⟨(fun _ => trivial) h.1, (fun h => ⟨(fun h => Nat.lt_of_le_of_lt h (by decide)) h.1, (fun _ => trivial) h.2⟩) h.2⟩) (h.2 v hv)⟩) z2)
theorem lifted (os : Os) (started : os.Started) (H : Type) (enc : TypeId × Value → H) :
 ReturnsInHanded {} Tryd.checked os 6 .any (fun w args => (Rows.fnExactPutTargetSpec.pre enc Tryd.prog Tryd.f6 [] false w args ∧ laidMetH Tryd.prog Amu.Facts.laid1 w) ∧ sizedMet enc Tryd.prog Tryd.f6 (OpenSpec.ofChange Rows.fnExactPutTargetSpec) false w args)
  (Rows.fnExactPutTargetSpec.post enc Tryd.prog Tryd.f6 false true false false) := by
 refine returnsInHanded_of_change_and (C := Tryd.checked) (X := fun w _ => laidMetH Tryd.prog Amu.Facts.laid1 w) (fun _ _ _ hh h => h.of_heap hh) Amu.Facts.own started (by kernel_rfl) Tryd.func6
  (ChangeSpec.witness_shaped (enc := enc) (C := Tryd.checked) (os := os) (X := fun w _ => laidMetH Tryd.prog Amu.Facts.laid1 w) false (World.doorLaid Tryd.prog 400 os) #[.agg #[.slice none 0 0, .slice none 0 0], .string ByteArray.empty, .agg #[.slice none 0 0]] 8 rfl (Amu.Facts.door_shaped os _) (by as_aux_lemma => kernel_rfl) (by as_aux_lemma => kernel_rfl) (by as_aux_lemma => kernel_rfl) (Amu.Facts.door_met1 os _)) ?_
 intro W base args ds gs before hval hW _ hsz hL _
 obtain ⟨m, A, hS, hG⟩ := Amu.Facts.start1 hL
 exact law_returns (X := fun ro => SortX 80 [(51, 90, 1)] ro) (ts := [48, 9, 24]) (G := Tab 0) (Q := argQ) (tb := 4) Tryd.func6 rfl (by kernel_rfl) Amu.Facts.mixed Amu.Sort.sound_Target (by kernel_rfl) (by kernel_rfl) Tryd.underlying4 Amu.Facts.laidOut (by kernel_rfl) (by kernel_rfl)
  (fun H ds gs hd hg => by
    match ds, hd with
    | [_, _, _], _ => match gs, hg with
      | [_], _ => rfl) argsQ (fun h hE => h.ext hE) law hval hW hsz hS hG
theorem closed : joinedFacts Tryd.pinned.checked.prog 6 Tryd.f6 Rows.fnExactPutTargetSpec Rows.fnExactPutTargetRow = true := by
 unfold joinedFacts
 repeat' (with_reducible refine Amu.Facts.andI ?_ ?_)
 ·as_aux_lemma => kernel_rfl
 ·exact Amu.Facts.laidOut
 ·exact Amu.Facts.mapsRow
 ·as_aux_lemma => kernel_rfl
 ·as_aux_lemma => kernel_rfl
 ·as_aux_lemma => kernel_rfl
 ·as_aux_lemma => kernel_rfl
 ·as_aux_lemma => kernel_rfl
 ·as_aux_lemma => kernel_rfl
 ·as_aux_lemma => kernel_rfl
 ·as_aux_lemma => kernel_rfl
 ·as_aux_lemma => kernel_rfl
 ·as_aux_lemma => kernel_rfl
 ·as_aux_lemma => kernel_rfl
 ·as_aux_lemma => kernel_rfl
 ·as_aux_lemma => kernel_rfl
 ·as_aux_lemma => kernel_rfl
 ·as_aux_lemma => kernel_rfl
 ·as_aux_lemma => kernel_rfl
 ·as_aux_lemma => kernel_rfl
 ·as_aux_lemma => kernel_rfl
 ·as_aux_lemma => kernel_rfl
 ·exact Amu.Facts.plainK
 ·as_aux_lemma => kernel_rfl
 ·exact Amu.Facts.stopsH
 ·exact Amu.Facts.mayE
 ·exact Amu.Facts.lifts
 ·as_aux_lemma => kernel_rfl
 ·as_aux_lemma => kernel_rfl
 ·as_aux_lemma => kernel_rfl
 ·as_aux_lemma => kernel_rfl
 ·as_aux_lemma => kernel_rfl
theorem over : Rows.fnExactPutTargetRow.holds Tryd.pinned (OpenSpec.ofChange Rows.fnExactPutTargetSpec) :=
 OpenClaim.holds_of_wide 6 Tryd.f6 rfl rfl rfl rfl rfl rfl rfl ⟨rfl, rfl, rfl, rfl, rfl⟩ rfl rfl rfl rfl rfl (by kernel_rfl) Tryd.func6 closed
  (of_decide_eq_true (by kernel_rfl)) (by unfold Func.isWrapper; first | (rw [if_pos (by decide +kernel)]; kernel_rfl) | (rw [if_neg (by decide +kernel)]; exact ⟨rfl, rfl⟩))
  (fun os started H enc _ => lifted os started H enc)
theorem card : Claim7.holds Tryd.pinned (.plain (OpenSpec.ofChange Rows.fnExactPutTargetSpec)) Rows.fnExactPutTargetCard :=
 Claim7.holds_tied_plain_at .later [] [.data] true (true, "51549e53c7d523cc35051e099bbaa4ab5d15214d387d17cda168417e55ff9d31") true
  over (fun _ h => by cases h) (by kernel_rfl) (fun _ h => by cases h) fnExactPutTarget_row_tie rfl ⟨rfl, rfl⟩ (by kernel_rfl) rfl
  (fun f fn hf hfn => by
    obtain rfl : f = 6 := Option.some.inj ((show Tryd.prog.funcNamed "loop.example/kilntrace/laws.FnExactPutTarget" = some 6 by kernel_rfl).symm.trans hf) |>.symm
    obtain rfl : fn = Tryd.f6 := (Option.some.inj (Tryd.func6.symm.trans hfn)).symm
    exact ⟨by kernel_rfl, fun j t ht => by
     rw [Tryd.params6] at ht
     have hm : t ∈ [48, 9, 24] := by simpa using Array.mem_of_getElem? ht
     have hall : ([48, 9, 24].all fun u => !Tryd.prog.wantsStandIn u) = true := by kernel_rfl
     exact (show Tryd.prog.wantsStandIn t = false by simpa using List.all_eq_true.1 hall t hm)⟩)
  (by kernel_rfl)
end Go.Proofs.YtjlbcofopapajaaDoor.fnExactPutTarget
namespace Go.Proofs.YtjlbcofopapajaaDoor
theorem fnExactPutTarget_holds : Rows.FnExactPutTargetCardSaid := fnExactPutTarget.card
#print axioms fnExactPutTarget_holds
end Go.Proofs.YtjlbcofopapajaaDoor
