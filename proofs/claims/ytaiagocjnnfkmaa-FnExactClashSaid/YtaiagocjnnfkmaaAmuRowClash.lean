/- FnExactClash: whatever the input, the law returns true. -/
import Derived.Test.YtaiagocjnnfkmaaRows
import Derived.Test.YtaiagocjnnfkmaaAmT1
import Derived.Test.YtaiagocjnnfkmaaAmuLClash
import Derived.WalkKit
import Derived.ProofKit
import Derived.OpenShut
import Derived.SizedLaws
import Derived.LaidMore
import Derived.Stop.Joined
import Derived.SevenTiedAt
namespace Go.Proofs.Ytaiagocjnnfkmaa.fnExactClash
open Go Go.ChangeShapes Go.WideShapes Go.ChangeAt Go.RowKit Go.AM
set_option linter.unusedVariables false
set_option maxRecDepth 100000
theorem own : ownKnob Try.prog.godebug = none := by kernel_rfl
set_option linter.defProp false
def argsL := (ArgsL.cons (ArgL.cell (LayT.slice (LayT.str Try.underlying9 (by kernel_rfl)) Try.underlying25 (by kernel_rfl) (of_decide_eq_true (by kernel_rfl)) (by decide)) (okWide_cells_slice Try.underlying25) rfl) (ArgsL.cons (ArgL.cell (LayT.int Try.underlying3 (by kernel_rfl)) (okWide_cells_int Try.underlying3) rfl) (ArgsL.nil)) : ArgsL Try.prog [25, 3] _)
def argQ (A : AH) (us : List Value) : Prop := ∃ (x0 : List (ByteArray)) (u0 : Value) (us1 : List Value), us = u0 :: us1 ∧ Cell1 A x0 u0 ∧ (x0.length ≤ reachBytes ∧ ∀ v ∈ x0, v.size ≤ reachBytes) ∧ ∃ (x1 : Int) (u1 : Value) (us2 : List Value), us1 = u1 :: us2 ∧ Cell1 A x1 u1 ∧ (-9223372036854775808 ≤ x1 ∧ x1 ≤ 9223372036854775807) ∧ us2 = []
theorem argsQ : ArgsL Try.prog [25, 3] argQ := argsL
theorem law (A : AH) (us : List Value) (hG : True) (hQ : argQ A us) : ACalls Try.prog A.size (fun _ _ _ _ _ => False) 7 us A (fun r _ => r = .ret (.bool true)) := by
  obtain ⟨x0, u0, _, rfl, h0, z0, x1, u1, _, rfl, h1, z1, rfl⟩ := hQ
  obtain ⟨F0, s0, e0, r0⟩ := h0
  cases e0
  obtain ⟨F1, r1⟩ := h1
  obtain rfl := (List.cons.inj r1.1).1
  exact Amu.LClash.law_a A (Nat.le_refl _) s0 x0 F0 r0 ((fun h => ⟨Nat.lt_of_le_of_lt h.1 (by decide), fun v hv => (fun h => Nat.lt_of_le_of_lt h (by decide)) (h.2 v hv)⟩) z0) x1 z1
theorem lifted (os : Os) (started : os.Started) (H : Type) (enc : TypeId × Value → H) :
    ReturnsInHanded {} Try.checked os 7 .any (Rows.fnExactClashSpec.pre6 enc Try.prog Try.f7 Rows.fnExactClashRow.domain false) (Rows.fnExactClashSpec.post enc Try.prog Try.f7 false true false false) := by
  refine returnsInHanded_of_change_sized (C := Try.checked) own started (by kernel_rfl) Try.func7
    (ChangeSpec.witness6 (enc := enc) (C := Try.checked) false ⟨#[], #[.slice none 0 0, .int .i64 0], []⟩ 8 (by kernel_rfl) (by kernel_rfl) (by kernel_rfl) (by kernel_rfl)) ?_
  intro W base args ds gs before hval hW _ hsz _
  obtain ⟨m, A, hS, hd⟩ := SimG.start Try.prog.globals.size W
  exact law_returns (X := fun _ _ _ _ _ => False) (ts := [25, 3]) (G := fun _ => True) (Q := argQ) (tb := 4) Try.func7 rfl (by kernel_rfl) (by kernel_rfl) (fun _ _ _ _ _ _ _ _ h => h.elim) (by kernel_rfl) (by kernel_rfl) Try.underlying4 (by kernel_rfl) (by kernel_rfl) (by kernel_rfl)
    (fun H ds gs hd hg => by
      match ds, hd with
      | [_, _], _ => match gs, hg with
        | [], _ => rfl) argsQ (fun h hE => trivial) (fun A us _ hQ => law A us trivial hQ) hval hW hsz hS.1 trivial
theorem over : Rows.fnExactClashRow.holds Try.pinned (OpenSpec.ofChange Rows.fnExactClashSpec) :=
  OpenClaim.holds_of_wide 7 Try.f7 rfl rfl rfl rfl rfl rfl rfl ⟨rfl, rfl, rfl, rfl, rfl⟩ rfl rfl rfl rfl rfl (by kernel_rfl) Try.func7 (by kernel_rfl)
    (of_decide_eq_true (by kernel_rfl)) (by unfold Func.isWrapper; first | (rw [if_pos (by decide +kernel)]; kernel_rfl) | (rw [if_neg (by decide +kernel)]; exact ⟨rfl, rfl⟩))
    (fun os started H enc _ => lifted os started H enc)
end Go.Proofs.Ytaiagocjnnfkmaa.fnExactClash
namespace Go.Proofs.Ytaiagocjnnfkmaa
/-- The row, under a short name, for the claim. -/
theorem fnExactClash_holds : Rows.FnExactClashSaid := fnExactClash.over
#print axioms fnExactClash_holds
end Go.Proofs.Ytaiagocjnnfkmaa
