/- FnExactFormResult: whatever the input, the law returns true. -/
import Derived.Test.YtaiagocjnnfkmaaRows
import Derived.Test.YtaiagocjnnfkmaaAmT1
import Derived.Test.YtaiagocjnnfkmaaAmuLFormResult
import Derived.WalkKit
import Derived.ProofKit
import Derived.OpenShut
import Derived.SizedLaws
import Derived.LaidMore
import Derived.Stop.Joined
import Derived.SevenTiedAt
namespace Go.Proofs.Ytaiagocjnnfkmaa.fnExactFormResult
open Go Go.ChangeShapes Go.WideShapes Go.ChangeAt Go.RowKit Go.AM
set_option linter.unusedVariables false
set_option maxRecDepth 100000
theorem own : ownKnob Try.prog.godebug = none := by kernel_rfl
set_option linter.defProp false
def argsL := (ArgsL.cons (ArgL.struct (LayT.struct Try.underlying33 (by kernel_rfl) (LayF.cons (LayT.int Try.underlying3 (by kernel_rfl)) (LayF.cons (LayT.str Try.underlying9 (by kernel_rfl)) (LayF.one (LayT.slice (LayT.str Try.underlying9 (by kernel_rfl)) Try.underlying25 (by kernel_rfl) (of_decide_eq_true (by kernel_rfl)) (by decide)))))) Try.underlying33) (ArgsL.nil) : ArgsL Try.prog [33] _)
def argQ (A : AH) (us : List Value) : Prop := ∃ (x0 : (Int) × (ByteArray) × (List (ByteArray))) (u0 : Value) (us1 : List Value), us = u0 :: us1 ∧ CellN A x0 u0 ∧ ((-9223372036854775808 ≤ x0.1 ∧ x0.1 ≤ 9223372036854775807) ∧ (x0.2.1.size ≤ reachBytes) ∧ (x0.2.2.length ≤ reachBytes ∧ ∀ v ∈ x0.2.2, v.size ≤ reachBytes)) ∧ us1 = []
theorem argsQ : ArgsL Try.prog [33] argQ := argsL
theorem law (A : AH) (us : List Value) (hG : True) (hQ : argQ A us) : ACalls Try.prog A.size (fun _ _ _ _ _ => False) 6 us A (fun r _ => r = .ret (.bool true)) := by
  obtain ⟨x0, u0, _, rfl, h0, z0, rfl⟩ := hQ
  obtain ⟨c0, F0, rfl, r0⟩ := h0
  exact Amu.LFormResult.law_a A (Nat.le_refl _) x0 c0 F0 r0 ((fun h => ⟨(fun _ => trivial) h.1, (fun h => ⟨(fun h => Nat.lt_of_le_of_lt h (by decide)) h.1, (fun h => ⟨Nat.lt_of_le_of_lt h.1 (by decide), fun v hv => (fun h => Nat.lt_of_le_of_lt h (by decide)) (h.2 v hv)⟩) h.2⟩) h.2⟩) z0)
theorem lifted (os : Os) (started : os.Started) (H : Type) (enc : TypeId × Value → H) :
    ReturnsInHanded {} Try.checked os 6 .any (Rows.fnExactFormResultSpec.pre6 enc Try.prog Try.f6 Rows.fnExactFormResultRow.domain false) (Rows.fnExactFormResultSpec.post enc Try.prog Try.f6 false true false false) := by
  refine returnsInHanded_of_change_sized (C := Try.checked) own started (by kernel_rfl) Try.func6
    (ChangeSpec.witness6 (enc := enc) (C := Try.checked) false ⟨#[], #[.agg #[.int .i64 0, .string ByteArray.empty, .slice none 0 0]], []⟩ 8 (by kernel_rfl) (by kernel_rfl) (by kernel_rfl) (by kernel_rfl)) ?_
  intro W base args ds gs before hval hW _ hsz _
  obtain ⟨m, A, hS, hd⟩ := SimG.start Try.prog.globals.size W
  exact law_returns (X := fun _ _ _ _ _ => False) (ts := [33]) (G := fun _ => True) (Q := argQ) (tb := 4) Try.func6 rfl (by kernel_rfl) (by kernel_rfl) (fun _ _ _ _ _ _ _ _ h => h.elim) (by kernel_rfl) (by kernel_rfl) Try.underlying4 (by kernel_rfl) (by kernel_rfl) (by kernel_rfl)
    (fun H ds gs hd hg => by
      match ds, hd with
      | [_], _ => match gs, hg with
        | [], _ => rfl) argsQ (fun h hE => trivial) (fun A us _ hQ => law A us trivial hQ) hval hW hsz hS.1 trivial
theorem over : Rows.fnExactFormResultRow.holds Try.pinned (OpenSpec.ofChange Rows.fnExactFormResultSpec) :=
  OpenClaim.holds_of_wide 6 Try.f6 rfl rfl rfl rfl rfl rfl rfl ⟨rfl, rfl, rfl, rfl, rfl⟩ rfl rfl rfl rfl rfl (by kernel_rfl) Try.func6 (by kernel_rfl)
    (of_decide_eq_true (by kernel_rfl)) (by unfold Func.isWrapper; first | (rw [if_pos (by decide +kernel)]; kernel_rfl) | (rw [if_neg (by decide +kernel)]; exact ⟨rfl, rfl⟩))
    (fun os started H enc _ => lifted os started H enc)
end Go.Proofs.Ytaiagocjnnfkmaa.fnExactFormResult
namespace Go.Proofs.Ytaiagocjnnfkmaa
/-- The row, under a short name, for the claim. -/
theorem fnExactFormResult_holds : Rows.FnExactFormResultSaid := fnExactFormResult.over
#print axioms fnExactFormResult_holds
end Go.Proofs.Ytaiagocjnnfkmaa
