/- FnExactFits: whatever the input, the law returns true. -/
import Derived.Test.YtcdnlghlbljopaaRows
import Derived.Test.YtcdnlghlbljopaaAmuFacts
import Derived.Test.YtcdnlghlbljopaaAmuLFits
import Derived.WalkKit
import Derived.ProofKit
import Derived.OpenShut
import Derived.SizedLaws
import Derived.LaidMore
import Derived.Stop.Joined
import Derived.SevenTiedAt
namespace Go.Proofs.Ytcdnlghlbljopaa.fnExactFits
open Go Go.ChangeShapes Go.WideShapes Go.ChangeAt Go.RowKit Go.AM
set_option linter.unusedVariables false
set_option maxRecDepth 100000
set_option maxHeartbeats 4000000
set_option linter.defProp false
def argsL := (ArgsL.cons (ArgL.struct (LayT.struct Try.underlying27 (by kernel_rfl) (LayF.cons (LayT.struct Try.underlying24 (by kernel_rfl) (LayF.one (LayT.slice (LayT.struct Try.underlying72 (by kernel_rfl) (LayF.cons (LayT.int Try.underlying3 (by kernel_rfl)) (LayF.cons (LayT.str Try.underlying9 (by kernel_rfl)) (LayF.one (LayT.int Try.underlying3 (by kernel_rfl)))))) Try.underlying22 (by kernel_rfl) (of_decide_eq_true (by kernel_rfl)) (by decide)))) (LayF.cons (LayT.slice (LayT.struct Try.underlying62 (by kernel_rfl) (LayF.cons (LayT.str Try.underlying9 (by kernel_rfl)) (LayF.cons (LayT.bool Try.underlying4 (by kernel_rfl)) (LayF.one (LayT.str Try.underlying9 (by kernel_rfl)))))) Try.underlying25 (by kernel_rfl) (of_decide_eq_true (by kernel_rfl)) (by decide)) (LayF.one (LayT.str Try.underlying9 (by kernel_rfl)))))) Try.underlying27) (ArgsL.cons (ArgL.cell (LayT.slice (LayT.struct Try.underlying48 (by kernel_rfl) (LayF.cons (LayT.str Try.underlying9 (by kernel_rfl)) (LayF.cons (LayT.bool Try.underlying4 (by kernel_rfl)) (LayF.one (LayT.str Try.underlying9 (by kernel_rfl)))))) Try.underlying28 (by kernel_rfl) (of_decide_eq_true (by kernel_rfl)) (by decide)) (okWide_cells_slice Try.underlying28) rfl) (ArgsL.cons (ArgL.cell (LayT.int Try.underlying3 (by kernel_rfl)) (okWide_cells_int Try.underlying3) rfl) (ArgsL.nil))) : ArgsL Try.prog [27, 28, 3] _)
def argQ (A : AH) (us : List Value) : Prop := ∃ (x0 : ((List ((Int) × (ByteArray) × (Int)))) × (List ((ByteArray) × (Bool) × (ByteArray))) × (ByteArray)) (u0 : Value) (us1 : List Value), us = u0 :: us1 ∧ CellN A x0 u0 ∧ (((x0.1.length ≤ reachBytes ∧ ∀ v : (Int) × (ByteArray) × (Int), v ∈ x0.1 → ((-9223372036854775808 ≤ v.1 ∧ v.1 ≤ 9223372036854775807) ∧ (v.2.1.size ≤ reachBytes) ∧ (-9223372036854775808 ≤ v.2.2 ∧ v.2.2 ≤ 9223372036854775807)))) ∧ (x0.2.1.length ≤ reachBytes ∧ ∀ v : (ByteArray) × (Bool) × (ByteArray), v ∈ x0.2.1 → ((v.1.size ≤ reachBytes) ∧ (True) ∧ (v.2.2.size ≤ reachBytes))) ∧ (x0.2.2.size ≤ reachBytes)) ∧ ∃ (x1 : List ((ByteArray) × (Bool) × (ByteArray))) (u1 : Value) (us2 : List Value), us1 = u1 :: us2 ∧ Cell1 A x1 u1 ∧ (x1.length ≤ reachBytes ∧ ∀ v : (ByteArray) × (Bool) × (ByteArray), v ∈ x1 → ((v.1.size ≤ reachBytes) ∧ (True) ∧ (v.2.2.size ≤ reachBytes))) ∧ ∃ (x2 : Int) (u2 : Value) (us3 : List Value), us2 = u2 :: us3 ∧ Cell1 A x2 u2 ∧ (-9223372036854775808 ≤ x2 ∧ x2 ≤ 9223372036854775807) ∧ us3 = []
theorem argsQ : ArgsL Try.prog [27, 28, 3] argQ := argsL
theorem law (A : AH) (us : List Value) (hG : True) (hQ : argQ A us) : ACalls Try.prog A.size (fun _ _ _ _ _ => False) 3 us A (fun r _ => r = .ret (.bool true)) := by
  obtain ⟨x0, u0, _, rfl, h0, z0, x1, u1, _, rfl, h1, z1, x2, u2, _, rfl, h2, z2, rfl⟩ := hQ
  obtain ⟨c0, F0, rfl, r0⟩ := h0
  obtain ⟨F1, s1, e1, r1⟩ := h1
  cases e1
  obtain ⟨F2, r2⟩ := h2
  obtain rfl := (List.cons.inj r2.1).1
  exact Amu.LFits.law_a A (Nat.le_refl _) x0 c0 F0 r0 ((fun h => ⟨(fun h => ⟨Nat.lt_of_le_of_lt h.1 (by decide), fun v hv => (fun h => ⟨(fun _ => trivial) h.1, (fun h => ⟨(fun h => Nat.lt_of_le_of_lt h (by decide)) h.1, (fun _ => trivial) h.2⟩) h.2⟩) (h.2 v hv)⟩) h.1, (fun h => ⟨(fun h => ⟨Nat.lt_of_le_of_lt h.1 (by decide), fun v hv => (fun h => ⟨(fun h => Nat.lt_of_le_of_lt h (by decide)) h.1, (fun h => ⟨(fun _ => trivial) h.1, (fun h => Nat.lt_of_le_of_lt h (by decide)) h.2⟩) h.2⟩) (h.2 v hv)⟩) h.1, (fun h => Nat.lt_of_le_of_lt h (by decide)) h.2⟩) h.2⟩) z0) s1 x1 F1 r1 ((fun h => ⟨Nat.lt_of_le_of_lt h.1 (by decide), fun v hv => (fun h => ⟨(fun h => Nat.lt_of_le_of_lt h (by decide)) h.1, (fun h => ⟨(fun _ => trivial) h.1, (fun h => Nat.lt_of_le_of_lt h (by decide)) h.2⟩) h.2⟩) (h.2 v hv)⟩) z1) x2 z2
theorem lifted (os : Os) (started : os.Started) (H : Type) (enc : TypeId × Value → H) :
    ReturnsInHanded {} Try.checked os 3 .any (Rows.fnExactFitsSpec.pre6 enc Try.prog Try.f3 Rows.fnExactFitsRow.domain false) (Rows.fnExactFitsSpec.post enc Try.prog Try.f3 false true false false) := by
  refine returnsInHanded_of_change_sized (C := Try.checked) Amu.Facts.own started (by kernel_rfl) Try.func3
    (ChangeSpec.witness6 (enc := enc) (C := Try.checked) false ⟨#[], #[.agg #[.slice none 0 0, .slice none 0 0, .string ByteArray.empty], .slice none 0 0, .int .i64 0], []⟩ 8 (by kernel_rfl) (by kernel_rfl) (by kernel_rfl) (by kernel_rfl)) ?_
  intro W base args ds gs before hval hW _ hsz _
  obtain ⟨m, A, hS, hd⟩ := SimG.start Try.prog.globals.size W
  exact law_returns (X := fun _ _ _ _ _ => False) (ts := [27, 28, 3]) (G := fun _ => True) (Q := argQ) (tb := 4) Try.func3 rfl (by kernel_rfl) Amu.Facts.mixed (fun _ _ _ _ _ _ _ _ h => h.elim) (by kernel_rfl) (by kernel_rfl) Try.underlying4 Amu.Facts.laidOut (by kernel_rfl) (by kernel_rfl)
    (fun H ds gs hd hg => by
      match ds, hd with
      | [_, _, _], _ => match gs, hg with
        | [], _ => rfl) argsQ (fun h hE => trivial) (fun A us _ hQ => law A us trivial hQ) hval hW hsz hS.1 trivial
theorem closed : joinedFacts Try.pinned.checked.prog 3 Try.f3 Rows.fnExactFitsSpec Rows.fnExactFitsRow = true := by
  unfold joinedFacts
  repeat' (with_reducible refine Amu.Facts.andI ?_ ?_)
  · as_aux_lemma => kernel_rfl
  · exact Amu.Facts.laidOut
  · exact Amu.Facts.mapsRow
  · as_aux_lemma => kernel_rfl
  · as_aux_lemma => kernel_rfl
  · as_aux_lemma => kernel_rfl
  · as_aux_lemma => kernel_rfl
  · as_aux_lemma => kernel_rfl
  · as_aux_lemma => kernel_rfl
  · as_aux_lemma => kernel_rfl
  · as_aux_lemma => kernel_rfl
  · as_aux_lemma => kernel_rfl
  · as_aux_lemma => kernel_rfl
  · as_aux_lemma => kernel_rfl
  · as_aux_lemma => kernel_rfl
  · as_aux_lemma => kernel_rfl
  · as_aux_lemma => kernel_rfl
  · as_aux_lemma => kernel_rfl
  · as_aux_lemma => kernel_rfl
  · as_aux_lemma => kernel_rfl
  · as_aux_lemma => kernel_rfl
  · as_aux_lemma => kernel_rfl
  · exact Amu.Facts.plainK
  · as_aux_lemma => kernel_rfl
  · exact Amu.Facts.stopsH
  · exact Amu.Facts.mayE
  · exact Amu.Facts.lifts
  · as_aux_lemma => kernel_rfl
  · as_aux_lemma => kernel_rfl
  · as_aux_lemma => kernel_rfl
  · as_aux_lemma => kernel_rfl
  · as_aux_lemma => kernel_rfl
theorem over : Rows.fnExactFitsRow.holds Try.pinned (OpenSpec.ofChange Rows.fnExactFitsSpec) :=
  OpenClaim.holds_of_wide 3 Try.f3 rfl rfl rfl rfl rfl rfl rfl ⟨rfl, rfl, rfl, rfl, rfl⟩ rfl rfl rfl rfl rfl (by kernel_rfl) Try.func3 closed
    (of_decide_eq_true (by kernel_rfl)) (by unfold Func.isWrapper; first | (rw [if_pos (by decide +kernel)]; kernel_rfl) | (rw [if_neg (by decide +kernel)]; exact ⟨rfl, rfl⟩))
    (fun os started H enc _ => lifted os started H enc)
end Go.Proofs.Ytcdnlghlbljopaa.fnExactFits
namespace Go.Proofs.Ytcdnlghlbljopaa
/-- The row, under a short name, for the claim. -/
theorem fnExactFits_holds : Rows.FnExactFitsSaid := fnExactFits.over
#print axioms fnExactFits_holds
end Go.Proofs.Ytcdnlghlbljopaa
