/- FnExactNote: whatever the input, the law returns true. -/
import Derived.Test.YtcdnlghlbljopaaDoorRows
import Derived.Test.YtcdnlghlbljopaaDoorCards
import Derived.Test.YtcdnlghlbljopaaDoorTie
import Derived.Test.YtcdnlghlbljopaaDoorAmuFacts
import Derived.Test.YtcdnlghlbljopaaDoorAmuLNote
import Derived.WalkKit
import Derived.ProofKit
import Derived.OpenShut
import Derived.SizedLaws
import Derived.LaidMore
import Derived.Stop.Joined
import Derived.SevenTiedAt
namespace Go.Proofs.YtcdnlghlbljopaaDoor.fnExactNote
open Go Go.ChangeShapes Go.WideShapes Go.ChangeAt Go.RowKit Go.AM
set_option linter.unusedVariables false
set_option maxRecDepth 100000
set_option maxHeartbeats 4000000
set_option linter.defProp false
def argsL := (ArgsL.cons (ArgL.struct (LayT.struct Tryd.underlying24 (by kernel_rfl) (LayF.one (LayT.slice (LayT.struct Tryd.underlying187 (by kernel_rfl) (LayF.cons (LayT.int Tryd.underlying3 (by kernel_rfl)) (LayF.cons (LayT.str Tryd.underlying9 (by kernel_rfl)) (LayF.one (LayT.int Tryd.underlying3 (by kernel_rfl)))))) Tryd.underlying22 (by kernel_rfl) (of_decide_eq_true (by kernel_rfl)) (by decide)))) Tryd.underlying24) (ArgsL.cons (ArgL.cell (LayT.slice (LayT.struct Tryd.underlying148 (by kernel_rfl) (LayF.cons (LayT.str Tryd.underlying9 (by kernel_rfl)) (LayF.cons (LayT.bool Tryd.underlying4 (by kernel_rfl)) (LayF.one (LayT.str Tryd.underlying9 (by kernel_rfl)))))) Tryd.underlying62 (by kernel_rfl) (of_decide_eq_true (by kernel_rfl)) (by decide)) (okWide_cells_slice Tryd.underlying62) rfl) (ArgsL.cons (ArgL.struct (LayT.struct Tryd.underlying64 (by kernel_rfl) (LayF.cons (LayT.int Tryd.underlying3 (by kernel_rfl)) (LayF.cons (LayT.str Tryd.underlying9 (by kernel_rfl)) (LayF.one (LayT.slice (LayT.str Tryd.underlying9 (by kernel_rfl)) Tryd.underlying47 (by kernel_rfl) (of_decide_eq_true (by kernel_rfl)) (by decide)))))) Tryd.underlying64) (ArgsL.cons (ArgL.cell (LayT.int Tryd.underlying3 (by kernel_rfl)) (okWide_cells_int Tryd.underlying3) rfl) (ArgsL.nil)))) : ArgsL Tryd.prog [24, 62, 64, 3] _)
def argQ (A : AH) (us : List Value) : Prop := ∃ (x0 : (List ((Int) × (ByteArray) × (Int)))) (u0 : Value) (us1 : List Value), us = u0 :: us1 ∧ CellN A x0 u0 ∧ ((x0.length ≤ reachBytes ∧ ∀ v : (Int) × (ByteArray) × (Int), v ∈ x0 → ((-9223372036854775808 ≤ v.1 ∧ v.1 ≤ 9223372036854775807) ∧ (v.2.1.size ≤ reachBytes) ∧ (-9223372036854775808 ≤ v.2.2 ∧ v.2.2 ≤ 9223372036854775807)))) ∧ ∃ (x1 : List ((ByteArray) × (Bool) × (ByteArray))) (u1 : Value) (us2 : List Value), us1 = u1 :: us2 ∧ Cell1 A x1 u1 ∧ (x1.length ≤ reachBytes ∧ ∀ v : (ByteArray) × (Bool) × (ByteArray), v ∈ x1 → ((v.1.size ≤ reachBytes) ∧ (True) ∧ (v.2.2.size ≤ reachBytes))) ∧ ∃ (x2 : (Int) × (ByteArray) × (List (ByteArray))) (u2 : Value) (us3 : List Value), us2 = u2 :: us3 ∧ CellN A x2 u2 ∧ ((-9223372036854775808 ≤ x2.1 ∧ x2.1 ≤ 9223372036854775807) ∧ (x2.2.1.size ≤ reachBytes) ∧ (x2.2.2.length ≤ reachBytes ∧ ∀ v : ByteArray, v ∈ x2.2.2 → (v.size ≤ reachBytes))) ∧ ∃ (x3 : Int) (u3 : Value) (us4 : List Value), us3 = u3 :: us4 ∧ Cell1 A x3 u3 ∧ (-9223372036854775808 ≤ x3 ∧ x3 ≤ 9223372036854775807) ∧ us4 = []
theorem argsQ : ArgsL Tryd.prog [24, 62, 64, 3] argQ := argsL
theorem law (A : AH) (us : List Value) (hG : Tab 0 A) (hQ : argQ A us) : ACalls Tryd.prog A.size (fun _ _ _ _ _ => False) 8 us A (fun r _ => r = .ret (.bool true)) := by
  obtain ⟨x0, u0, _, rfl, h0, z0, x1, u1, _, rfl, h1, z1, x2, u2, _, rfl, h2, z2, x3, u3, _, rfl, h3, z3, rfl⟩ := hQ
  obtain ⟨c0, F0, rfl, r0⟩ := h0
  obtain ⟨F1, s1, e1, r1⟩ := h1
  cases e1
  obtain ⟨c2, F2, rfl, r2⟩ := h2
  obtain ⟨F3, r3⟩ := h3
  obtain rfl := (List.cons.inj r3.1).1
  exact Amu.LNote.law_a A (Nat.le_refl _) hG x0 c0 F0 r0 ((fun h => ⟨Nat.lt_of_le_of_lt h.1 (by decide), fun v hv => (fun h => ⟨(fun _ => trivial) h.1, (fun h => ⟨(fun h => Nat.lt_of_le_of_lt h (by decide)) h.1, (fun _ => trivial) h.2⟩) h.2⟩) (h.2 v hv)⟩) z0) s1 x1 F1 r1 ((fun h => ⟨Nat.lt_of_le_of_lt h.1 (by decide), fun v hv => (fun h => ⟨(fun h => Nat.lt_of_le_of_lt h (by decide)) h.1, (fun h => ⟨(fun _ => trivial) h.1, (fun h => Nat.lt_of_le_of_lt h (by decide)) h.2⟩) h.2⟩) (h.2 v hv)⟩) z1) x2 c2 F2 r2 ((fun h => ⟨(fun _ => trivial) h.1, (fun h => ⟨(fun h => Nat.lt_of_le_of_lt h (by decide)) h.1, (fun h => ⟨Nat.lt_of_le_of_lt h.1 (by decide), fun v hv => (fun h => Nat.lt_of_le_of_lt h (by decide)) (h.2 v hv)⟩) h.2⟩) h.2⟩) z2) x3 z3
theorem lifted (os : Os) (started : os.Started) (H : Type) (enc : TypeId × Value → H) :
    ReturnsInHanded {} Tryd.checked os 8 .any (fun w args => (Rows.fnExactNoteSpec.pre enc Tryd.prog Tryd.f8 [] false w args ∧ laidMetH Tryd.prog Amu.Facts.laid0 w) ∧ sizedMet enc Tryd.prog Tryd.f8 (OpenSpec.ofChange Rows.fnExactNoteSpec) false w args)
      (Rows.fnExactNoteSpec.post enc Tryd.prog Tryd.f8 false true false false) := by
  refine returnsInHanded_of_change_and (C := Tryd.checked) (X := fun w _ => laidMetH Tryd.prog Amu.Facts.laid0 w) (fun _ _ _ hh h => h.of_heap hh) Amu.Facts.own started (by kernel_rfl) Tryd.func8
    (ChangeSpec.witness_shaped (enc := enc) (C := Tryd.checked) (os := os) (X := fun w _ => laidMetH Tryd.prog Amu.Facts.laid0 w) false (World.doorLaid Tryd.prog 400 os) #[.agg #[.slice none 0 0], .slice none 0 0, .agg #[.int .i64 0, .string ByteArray.empty, .slice none 0 0], .int .i64 0] 8 rfl (Amu.Facts.door_shaped os _) (by as_aux_lemma => kernel_rfl) (by as_aux_lemma => kernel_rfl) (by as_aux_lemma => kernel_rfl) (Amu.Facts.door_met0 os _)) ?_
  intro W base args ds gs before hval hW _ hsz hL _
  obtain ⟨m, A, hS, hG⟩ := Amu.Facts.start0 hL
  exact law_returns (X := fun _ _ _ _ _ => False) (ts := [24, 62, 64, 3]) (G := Tab 0) (Q := argQ) (tb := 4) Tryd.func8 rfl (by kernel_rfl) Amu.Facts.mixed (fun _ _ _ _ _ _ _ _ h => h.elim) (by kernel_rfl) (by kernel_rfl) Tryd.underlying4 Amu.Facts.laidOut (by kernel_rfl) (by kernel_rfl)
    (fun H ds gs hd hg => by
      match ds, hd with
      | [_, _, _, _], _ => match gs, hg with
        | [_], _ => rfl) argsQ (fun h hE => h.ext hE) law hval hW hsz hS hG
theorem closed : joinedFacts Tryd.pinned.checked.prog 8 Tryd.f8 Rows.fnExactNoteSpec Rows.fnExactNoteRow = true := by
  unfold joinedFacts
  repeat' (with_reducible refine Amu.Facts.andI ?_ ?_)
  · as_aux_lemma => kernel_rfl
  · exact Amu.Facts.laidOut
  · exact Amu.Facts.mapsRow
  · as_aux_lemma => kernel_rfl
  · as_aux_lemma => kernel_rfl
  · as_aux_lemma => kernel_rfl
  · as_aux_lemma => kernel_rfl
  · as_aux_lemma => kernel_rfl
  · as_aux_lemma => kernel_rfl
  · as_aux_lemma => kernel_rfl
  · as_aux_lemma => kernel_rfl
  · as_aux_lemma => kernel_rfl
  · as_aux_lemma => kernel_rfl
  · as_aux_lemma => kernel_rfl
  · as_aux_lemma => kernel_rfl
  · as_aux_lemma => kernel_rfl
  · as_aux_lemma => kernel_rfl
  · as_aux_lemma => kernel_rfl
  · as_aux_lemma => kernel_rfl
  · as_aux_lemma => kernel_rfl
  · as_aux_lemma => kernel_rfl
  · as_aux_lemma => kernel_rfl
  · exact Amu.Facts.plainK
  · as_aux_lemma => kernel_rfl
  · exact Amu.Facts.stopsH
  · exact Amu.Facts.mayE
  · exact Amu.Facts.lifts
  · as_aux_lemma => kernel_rfl
  · as_aux_lemma => kernel_rfl
  · as_aux_lemma => kernel_rfl
  · as_aux_lemma => kernel_rfl
  · as_aux_lemma => kernel_rfl
theorem over : Rows.fnExactNoteRow.holds Tryd.pinned (OpenSpec.ofChange Rows.fnExactNoteSpec) :=
  OpenClaim.holds_of_wide 8 Tryd.f8 rfl rfl rfl rfl rfl rfl rfl ⟨rfl, rfl, rfl, rfl, rfl⟩ rfl rfl rfl rfl rfl (by kernel_rfl) Tryd.func8 closed
    (of_decide_eq_true (by kernel_rfl)) (by unfold Func.isWrapper; first | (rw [if_pos (by decide +kernel)]; kernel_rfl) | (rw [if_neg (by decide +kernel)]; exact ⟨rfl, rfl⟩))
    (fun os started H enc _ => lifted os started H enc)
theorem card : Claim7.holds Tryd.pinned (.plain (OpenSpec.ofChange Rows.fnExactNoteSpec)) Rows.fnExactNoteCard :=
  Claim7.holds_tied_plain_at .later [] [.data] true (true, "586f7642ff347e89a38fc550382623073d5788cb860115320908d46d3308401e") false
    over (fun _ h => by cases h) (by kernel_rfl) (fun _ h => by cases h) fnExactNote_row_tie rfl ⟨rfl, rfl⟩ (by kernel_rfl) rfl
    (fun f fn hf hfn => by
      obtain rfl : f = 8 := Option.some.inj ((show Tryd.prog.funcNamed "loop.example/kilntrace/laws.FnExactNote" = some 8 by kernel_rfl).symm.trans hf) |>.symm
      obtain rfl : fn = Tryd.f8 := (Option.some.inj (Tryd.func8.symm.trans hfn)).symm
      exact ⟨by kernel_rfl, fun j t ht => by
        rw [Tryd.params8] at ht
        have hm : t ∈ [24, 62, 64, 3] := by simpa using Array.mem_of_getElem? ht
        have hall : ([24, 62, 64, 3].all fun u => !Tryd.prog.wantsStandIn u) = true := by kernel_rfl
        exact (show Tryd.prog.wantsStandIn t = false by simpa using List.all_eq_true.1 hall t hm)⟩)
    (by kernel_rfl)
end Go.Proofs.YtcdnlghlbljopaaDoor.fnExactNote
namespace Go.Proofs.YtcdnlghlbljopaaDoor
/-- The row, under a short name, for the claim. -/
theorem fnExactNote_holds : Rows.FnExactNoteCardSaid := fnExactNote.card
#print axioms fnExactNote_holds
end Go.Proofs.YtcdnlghlbljopaaDoor
