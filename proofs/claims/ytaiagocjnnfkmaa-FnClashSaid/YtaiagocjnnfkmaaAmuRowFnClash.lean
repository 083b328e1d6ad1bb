import Derived.Test.YtaiagocjnnfkmaaRows
import Derived.Test.YtaiagocjnnfkmaaAmuFacts
import Derived.Test.YtaiagocjnnfkmaaAmuLFnClash
import Derived.WalkKit
import Derived.ProofKit
import Derived.OpenShut
import Derived.SizedLaws
import Derived.LaidMore
import Derived.Stop.Joined
import Derived.SevenTiedAt
namespace Go.Proofs.Ytaiagocjnnfkmaa.fnClash
open Go Go.ChangeShapes Go.WideShapes Go.ChangeAt Go.RowKit Go.AM
set_option linter.unusedVariables false
set_option maxRecDepth 100000
set_option maxHeartbeats 4000000
set_option linter.defProp false
def argsL := (ArgsL.cons (ArgL.cell (LayT.slice (LayT.u8 Try.underlying5 (by kernel_rfl)) Try.underlying44 (by kernel_rfl) (of_decide_eq_true (by kernel_rfl)) (by decide)) (okWide_cells_slice Try.underlying44) rfl) (ArgsL.nil) : ArgsL Try.prog [44] _)
def argQ (A : AH) (us : List Value) : Prop := ∃ (x0 : List (UInt8)) (u0 : Value) (us1 : List Value), us = u0 :: us1 ∧ Cell1 A x0 u0 ∧ (x0.length ≤ reachBytes ∧ ∀ v : UInt8, v ∈ x0 → (True)) ∧ us1 = []
theorem argsQ : ArgsL Try.prog [44] argQ := argsL
theorem law (A : AH) (us : List Value) (hG : True) (hQ : argQ A us) : ACalls Try.prog A.size (fun _ _ _ _ _ => False) 8 us A (fun r _ => r = .ret (.bool true)) := by
 obtain ⟨x0, u0, _, rfl, h0, z0, rfl⟩ := hQ
 obtain ⟨F0, s0, e0, r0⟩ := h0
 cases e0
 exact Amu.LFnClash.law_a A (Nat.le_refl _) s0 x0 F0 r0 ((fun h => ⟨Nat.lt_of_le_of_lt h.1 (by decide), fun v hv => (fun _ => trivial) (h.2 v hv)⟩) z0)
theorem lifted (os : Os) (started : os.Started) (H : Type) (enc : TypeId × Value → H) :
 ReturnsInHanded {} Try.checked os 8 .any (Rows.fnClashSpec.pre6 enc Try.prog Try.f8 Rows.fnClashRow.domain false) (Rows.fnClashSpec.post enc Try.prog Try.f8 false true false false) := by
 refine returnsInHanded_of_change_sized (C := Try.checked) Amu.Facts.own started (by kernel_rfl) Try.func8
  (ChangeSpec.witness6 (enc := enc) (C := Try.checked) false ⟨#[], #[.slice none 0 0], []⟩ 8 (by kernel_rfl) (by kernel_rfl) (by kernel_rfl) (by kernel_rfl)) ?_
 intro W base args ds gs before hval hW _ hsz _
 obtain ⟨m, A, hS, hd⟩ := SimG.start Try.prog.globals.size W
 exact law_returns (X := fun _ _ _ _ _ _ => False) (ts := [44]) (G := fun _ => True) (Q := argQ) (tb := 4) Try.func8 rfl (by kernel_rfl) Amu.Facts.mixed (fun _ _ _ _ _ _ _ _ h => h.elim) (by kernel_rfl) (by kernel_rfl) Try.underlying4 Amu.Facts.laidOut (by kernel_rfl) (by kernel_rfl)
  (fun H ds gs hd hg => by
    match ds, hd with
    | [_], _ => match gs, hg with
      | [], _ => rfl) argsQ (fun h hE => trivial) (fun A us _ hQ => law A us trivial hQ) hval hW hsz hS.1 trivial
theorem closed : joinedFacts Try.pinned.checked.prog 8 Try.f8 Rows.fnClashSpec Rows.fnClashRow = true := by
 unfold joinedFacts
 repeat' (with_reducible refine Amu.Facts.andI ?_ ?_)
 ·as_aux_lemma => kernel_rfl
 ·exact Amu.Facts.laidOut
 ·exact Amu.Facts.mapsRow
 ·as_aux_lemma => kernel_rfl
 ·as_aux_lemma => kernel_rfl
 ·as_aux_lemma => kernel_rfl
 ·as_aux_lemma => kernel_rfl
 ·as_aux_lemma => kernel_rfl
 ·as_aux_lemma => kernel_rfl
 ·as_aux_lemma => kernel_rfl
 ·as_aux_lemma => kernel_rfl
 ·as_aux_lemma => kernel_rfl
 ·as_aux_lemma => kernel_rfl
 ·as_aux_lemma => kernel_rfl
 ·as_aux_lemma => kernel_rfl
 ·as_aux_lemma => kernel_rfl
 ·as_aux_lemma => kernel_rfl
 ·as_aux_lemma => kernel_rfl
 ·as_aux_lemma => kernel_rfl
 ·as_aux_lemma => kernel_rfl
 ·as_aux_lemma => kernel_rfl
 ·as_aux_lemma => kernel_rfl
 ·exact Amu.Facts.plainK
 ·as_aux_lemma => kernel_rfl
 ·exact Amu.Facts.stopsH
 ·exact Amu.Facts.mayE
 ·exact Amu.Facts.lifts
 ·as_aux_lemma => kernel_rfl
 ·as_aux_lemma => kernel_rfl
 ·as_aux_lemma => kernel_rfl
 ·as_aux_lemma => kernel_rfl
 ·as_aux_lemma => kernel_rfl
theorem over : Rows.fnClashRow.holds Try.pinned (OpenSpec.ofChange Rows.fnClashSpec) :=
 OpenClaim.holds_of_wide 8 Try.f8 rfl rfl rfl rfl rfl rfl rfl ⟨rfl, rfl, rfl, rfl, rfl⟩ rfl rfl rfl rfl rfl (by kernel_rfl) Try.func8 closed
  (of_decide_eq_true (by kernel_rfl)) (by unfold Func.isWrapper; first | (rw [if_pos (by decide +kernel)]; kernel_rfl) | (rw [if_neg (by decide +kernel)]; exact ⟨rfl, rfl⟩))
  (fun os started H enc _ => lifted os started H enc)
end Go.Proofs.Ytaiagocjnnfkmaa.fnClash
namespace Go.Proofs.Ytaiagocjnnfkmaa
theorem fnClash_holds : Rows.FnClashSaid := fnClash.over
#print axioms fnClash_holds
end Go.Proofs.Ytaiagocjnnfkmaa
