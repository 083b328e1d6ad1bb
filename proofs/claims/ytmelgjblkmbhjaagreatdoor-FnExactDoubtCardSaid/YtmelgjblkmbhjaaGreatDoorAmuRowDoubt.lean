import Derived.Test.YtmelgjblkmbhjaaGreatDoorRows
import Derived.Test.YtmelgjblkmbhjaaGreatDoorCards
import Derived.Test.YtmelgjblkmbhjaaGreatDoorTie
import Derived.Test.YtmelgjblkmbhjaaGreatDoorAmuFacts
import Derived.Test.YtmelgjblkmbhjaaGreatDoorAmuLDoubt
import Derived.WalkKit
import Derived.ProofKit
import Derived.OpenShut
import Derived.SizedLaws
import Derived.LaidMore
import Derived.Stop.Joined
import Derived.SevenTiedAt
namespace Go.Proofs.YtmelgjblkmbhjaaGreatDoor.fnExactDoubt
open Go Go.ChangeShapes Go.WideShapes Go.ChangeAt Go.RowKit Go.AM
set_option linter.unusedVariables false
set_option maxRecDepth 100000
set_option maxHeartbeats 4000000
set_option linter.defProp false
def argsL := (ArgsL.cons (ArgL.struct (LayT.struct Tryz.underlying25 (by kernel_rfl) (LayF.cons (LayT.int Tryz.underlying3 (by kernel_rfl)) (LayF.cons (LayT.slice (LayT.str Tryz.underlying9 (by kernel_rfl)) Tryz.underlying22 (by kernel_rfl) (of_decide_eq_true (by kernel_rfl)) (by decide)) (LayF.one (LayT.slice (LayT.struct Tryz.underlying117 (by kernel_rfl) (LayF.cons (LayT.struct Tryz.underlying114 (by kernel_rfl) (LayF.one (LayT.slice (LayT.struct Tryz.underlying249 (by kernel_rfl) (LayF.cons (LayT.int Tryz.underlying3 (by kernel_rfl)) (LayF.cons (LayT.str Tryz.underlying9 (by kernel_rfl)) (LayF.one (LayT.int Tryz.underlying3 (by kernel_rfl)))))) Tryz.underlying112 (by kernel_rfl) (of_decide_eq_true (by kernel_rfl)) (by decide)))) (LayF.cons (LayT.slice (LayT.struct Tryz.underlying225 (by kernel_rfl) (LayF.cons (LayT.str Tryz.underlying9 (by kernel_rfl)) (LayF.cons (LayT.bool Tryz.underlying4 (by kernel_rfl)) (LayF.one (LayT.str Tryz.underlying9 (by kernel_rfl)))))) Tryz.underlying115 (by kernel_rfl) (of_decide_eq_true (by kernel_rfl)) (by decide)) (LayF.one (LayT.str Tryz.underlying9 (by kernel_rfl)))))) Tryz.underlying23 (by kernel_rfl) (of_decide_eq_true (by kernel_rfl)) (by decide)))))) Tryz.underlying25) (ArgsL.cons (ArgL.struct (LayT.struct Tryz.underlying38 (by kernel_rfl) (LayF.cons (LayT.slice (LayT.struct Tryz.underlying143 (by kernel_rfl) (LayF.cons (LayT.str Tryz.underlying9 (by kernel_rfl)) (LayF.one (LayT.str Tryz.underlying9 (by kernel_rfl))))) Tryz.underlying35 (by kernel_rfl) (of_decide_eq_true (by kernel_rfl)) (by decide)) (LayF.one (LayT.slice (LayT.struct Tryz.underlying146 (by kernel_rfl) (LayF.cons (LayT.str Tryz.underlying9 (by kernel_rfl)) (LayF.one (LayT.struct Tryz.underlying114 (by kernel_rfl) (LayF.one (LayT.slice (LayT.struct Tryz.underlying249 (by kernel_rfl) (LayF.cons (LayT.int Tryz.underlying3 (by kernel_rfl)) (LayF.cons (LayT.str Tryz.underlying9 (by kernel_rfl)) (LayF.one (LayT.int Tryz.underlying3 (by kernel_rfl)))))) Tryz.underlying112 (by kernel_rfl) (of_decide_eq_true (by kernel_rfl)) (by decide))))))) Tryz.underlying36 (by kernel_rfl) (of_decide_eq_true (by kernel_rfl)) (by decide))))) Tryz.underlying38) (ArgsL.cons (ArgL.cell (LayT.str Tryz.underlying9 (by kernel_rfl)) (okWide_cells_str Tryz.underlying9) rfl) (ArgsL.nil))) : ArgsL Tryz.prog [25, 38, 9] _)
def argQ (A : AH) (us : List Value) : Prop := ∃ (x0 : (Int) × (List (ByteArray)) × (List (((List ((Int) × (ByteArray) × (Int)))) × (List ((ByteArray) × (Bool) × (ByteArray))) × (ByteArray)))) (u0 : Value) (us1 : List Value), us = u0 :: us1 ∧ CellN A x0 u0 ∧ ((-9223372036854775808 ≤ x0.1 ∧ x0.1 ≤ 9223372036854775807) ∧ (x0.2.1.length ≤ reachBytes ∧ ∀ v : ByteArray, v ∈ x0.2.1 → (v.size ≤ reachBytes)) ∧ (x0.2.2.length ≤ reachBytes ∧ ∀ v : ((List ((Int) × (ByteArray) × (Int)))) × (List ((ByteArray) × (Bool) × (ByteArray))) × (ByteArray), v ∈ x0.2.2 → (((v.1.length ≤ reachBytes ∧ ∀ vv : (Int) × (ByteArray) × (Int), vv ∈ v.1 → ((-9223372036854775808 ≤ vv.1 ∧ vv.1 ≤ 9223372036854775807) ∧ (vv.2.1.size ≤ reachBytes) ∧ (-9223372036854775808 ≤ vv.2.2 ∧ vv.2.2 ≤ 9223372036854775807)))) ∧ (v.2.1.length ≤ reachBytes ∧ ∀ vv : (ByteArray) × (Bool) × (ByteArray), vv ∈ v.2.1 → ((vv.1.size ≤ reachBytes) ∧ (True) ∧ (vv.2.2.size ≤ reachBytes))) ∧ (v.2.2.size ≤ reachBytes)))) ∧ ∃ (x1 : (List ((ByteArray) × (ByteArray))) × (List ((ByteArray) × ((List ((Int) × (ByteArray) × (Int))))))) (u1 : Value) (us2 : List Value), us1 = u1 :: us2 ∧ CellN A x1 u1 ∧ ((x1.1.length ≤ reachBytes ∧ ∀ v : (ByteArray) × (ByteArray), v ∈ x1.1 → ((v.1.size ≤ reachBytes) ∧ (v.2.size ≤ reachBytes))) ∧ (x1.2.length ≤ reachBytes ∧ ∀ v : (ByteArray) × ((List ((Int) × (ByteArray) × (Int)))), v ∈ x1.2 → ((v.1.size ≤ reachBytes) ∧ ((v.2.length ≤ reachBytes ∧ ∀ vv : (Int) × (ByteArray) × (Int), vv ∈ v.2 → ((-9223372036854775808 ≤ vv.1 ∧ vv.1 ≤ 9223372036854775807) ∧ (vv.2.1.size ≤ reachBytes) ∧ (-9223372036854775808 ≤ vv.2.2 ∧ vv.2.2 ≤ 9223372036854775807))))))) ∧ ∃ (x2 : ByteArray) (u2 : Value) (us3 : List Value), us2 = u2 :: us3 ∧ Cell1 A x2 u2 ∧ (x2.size ≤ reachBytes) ∧ us3 = []
theorem argsQ : ArgsL Tryz.prog [25, 38, 9] argQ := argsL
theorem law (A : AH) (us : List Value) (hG : TabPow 0 6 A) (hQ : argQ A us) : ACalls Tryz.prog A.size (XD Tryz.prog Tryz.prog.globals.size A.size (fun _ _ _ _ _ => False)) 4 us A (fun r _ => r = .ret (.bool true)) := by
 obtain ⟨x0, u0, _, rfl, h0, z0, x1, u1, _, rfl, h1, z1, x2, u2, _, rfl, h2, z2, rfl⟩ := hQ
 obtain ⟨c0, F0, rfl, r0⟩ := h0
 obtain ⟨c1, F1, rfl, r1⟩ := h1
 obtain ⟨F2, r2⟩ := h2
 obtain rfl := (List.cons.inj r2.1).1
 exact Amu.LDoubt.law_a A (Nat.le_refl _) hG.1 hG.2 (fun _ _ _ _ _ h => h) x0 c0 F0 r0 ((fun h => ⟨(fun _ => trivial) h.1, (fun h => ⟨(fun h => ⟨Nat.lt_of_le_of_lt h.1 (by decide), fun v hv => (fun h => Nat.lt_of_le_of_lt h (by decide)) (h.2 v hv)⟩) h.1, (fun h => ⟨Nat.lt_of_le_of_lt h.1 (by decide), fun v hv => (fun h => ⟨(fun h => ⟨Nat.lt_of_le_of_lt h.1 (by decide), fun v hv => (fun h => ⟨(fun _ => trivial) h.1, (fun h => ⟨(fun h => Nat.lt_of_le_of_lt h (by decide)) h.1, (fun _ => trivial) h.2⟩) h.2⟩) (h.2 v hv)⟩) h.1, (fun h => ⟨(fun h => ⟨Nat.lt_of_le_of_lt h.1 (by decide), fun v hv => (fun h => ⟨(fun h => Nat.lt_of_le_of_lt h (by decide)) h.1, (fun h => ⟨(fun _ => trivial) h.1, (fun h => Nat.lt_of_le_of_lt h (by decide)) h.2⟩) h.2⟩) (h.2 v hv)⟩) h.1, (fun h => Nat.lt_of_le_of_lt h (by decide)) h.2⟩) h.2⟩) (h.2 v hv)⟩) h.2⟩) h.2⟩) z0) x1 c1 F1 r1 ((fun h => ⟨(fun h => ⟨Nat.lt_of_le_of_lt h.1 (by decide), fun v hv => (fun h => ⟨(fun h => Nat.lt_of_le_of_lt h (by decide)) h.1, (fun h => Nat.lt_of_le_of_lt h (by decide)) h.2⟩) (h.2 v hv)⟩) h.1, (fun h => ⟨Nat.lt_of_le_of_lt h.1 (by decide), fun v hv => (fun h => ⟨(fun h => Nat.lt_of_le_of_lt h (by decide)) h.1, (fun h => ⟨Nat.lt_of_le_of_lt h.1 (by decide), fun v hv => (fun h => ⟨(fun _ => trivial) h.1, (fun h => ⟨(fun h => Nat.lt_of_le_of_lt h (by decide)) h.1, (fun _ => trivial) h.2⟩) h.2⟩) (h.2 v hv)⟩) h.2⟩) (h.2 v hv)⟩) h.2⟩) z1) x2 (Nat.lt_of_le_of_lt z2 (by decide))
theorem lifted (os : Os) (started : os.Started) (H : Type) (enc : TypeId × Value → H) :
 ReturnsInHanded {} Tryz.checked os 4 .any (fun w args => (Rows.fnExactDoubtSpec.pre enc Tryz.prog Tryz.f4 [] false w args ∧ laidMetH Tryz.prog Amu.Facts.laid0 w) ∧ sizedMet enc Tryz.prog Tryz.f4 (OpenSpec.ofChange Rows.fnExactDoubtSpec) false w args)
  (Rows.fnExactDoubtSpec.post enc Tryz.prog Tryz.f4 false true false false) := by
 refine returnsInHanded_of_change_and (C := Tryz.checked) (X := fun w _ => laidMetH Tryz.prog Amu.Facts.laid0 w) (fun _ _ _ hh h => h.of_heap hh) Amu.Facts.own started (by kernel_rfl) Tryz.func4
  (ChangeSpec.witness_shaped (enc := enc) (C := Tryz.checked) (os := os) (X := fun w _ => laidMetH Tryz.prog Amu.Facts.laid0 w) false (World.doorLaid Tryz.prog 400 os) #[.agg #[.int .i64 0, .slice none 0 0, .slice none 0 0], .agg #[.slice none 0 0, .slice none 0 0], .string ByteArray.empty] 8 rfl (Amu.Facts.door_shaped os _) (by as_aux_lemma => kernel_rfl) (by as_aux_lemma => kernel_rfl) (by as_aux_lemma => kernel_rfl) (Amu.Facts.door_met0 os _)) ?_
 intro W base args ds gs before hval hW _ hsz hL _
 obtain ⟨m, A, hS, hG⟩ := Amu.Facts.start0 hL
 exact law_returns (X := fun ro => XD Tryz.prog Tryz.prog.globals.size ro (fun _ _ _ _ _ => False)) (ts := [25, 38, 9]) (G := TabPow 0 6) (Q := argQ) (tb := 4) Tryz.func4 rfl (by kernel_rfl) Amu.Facts.mixed (fun _ _ _ _ _ _ _ _ h => XD.sound rfl Amu.Facts.mixed (fun _ _ _ _ _ h => h.elim) h) (by kernel_rfl) (by kernel_rfl) Tryz.underlying4 Amu.Facts.laidOut (by kernel_rfl) (by kernel_rfl)
  (fun H ds gs hd hg => by
    match ds, hd with
    | [_, _, _], _ => match gs, hg with
      | [_], _ => rfl) argsQ (fun h hE => h.ext hE) law hval hW hsz hS hG
theorem closed : joinedFacts Tryz.pinned.checked.prog 4 Tryz.f4 Rows.fnExactDoubtSpec Rows.fnExactDoubtRow = true := by
 unfold joinedFacts
 repeat' (with_reducible refine Amu.Facts.andI ?_ ?_)
 ·as_aux_lemma => kernel_rfl
 ·exact Amu.Facts.laidOut
 ·exact Amu.Facts.mapsRow
 ·as_aux_lemma => kernel_rfl
 ·as_aux_lemma => kernel_rfl
 ·as_aux_lemma => kernel_rfl
 ·as_aux_lemma => kernel_rfl
 ·as_aux_lemma => kernel_rfl
 ·as_aux_lemma => kernel_rfl
 ·as_aux_lemma => kernel_rfl
 ·as_aux_lemma => kernel_rfl
 ·as_aux_lemma => kernel_rfl
 ·as_aux_lemma => kernel_rfl
 ·as_aux_lemma => kernel_rfl
 ·as_aux_lemma => kernel_rfl
 ·as_aux_lemma => kernel_rfl
 ·as_aux_lemma => kernel_rfl
 ·as_aux_lemma => kernel_rfl
 ·as_aux_lemma => kernel_rfl
 ·as_aux_lemma => kernel_rfl
 ·as_aux_lemma => kernel_rfl
 ·as_aux_lemma => kernel_rfl
 ·exact Amu.Facts.plainK
 ·as_aux_lemma => kernel_rfl
 ·exact Amu.Facts.stopsH
 ·exact Amu.Facts.mayE
 ·exact Amu.Facts.lifts
 ·as_aux_lemma => kernel_rfl
 ·as_aux_lemma => kernel_rfl
 ·as_aux_lemma => kernel_rfl
 ·as_aux_lemma => kernel_rfl
 ·as_aux_lemma => kernel_rfl
theorem over : Rows.fnExactDoubtRow.holds Tryz.pinned (OpenSpec.ofChange Rows.fnExactDoubtSpec) :=
 OpenClaim.holds_of_wide 4 Tryz.f4 rfl rfl rfl rfl rfl rfl rfl ⟨rfl, rfl, rfl, rfl, rfl⟩ rfl rfl rfl rfl rfl (by kernel_rfl) Tryz.func4 closed
  (of_decide_eq_true (by kernel_rfl)) (by unfold Func.isWrapper; first | (rw [if_pos (by decide +kernel)]; kernel_rfl) | (rw [if_neg (by decide +kernel)]; exact ⟨rfl, rfl⟩))
  (fun os started H enc _ => lifted os started H enc)
theorem card : Claim7.holds Tryz.pinned (.plain (OpenSpec.ofChange Rows.fnExactDoubtSpec)) Rows.fnExactDoubtCard :=
 Claim7.holds_tied_plain_at .later [] [.data, .data, .data, .data] true (true, "b37e3049139af2a52e4de1dc89c9db3ea468e2f43005e22cc63a6e4cc4774256") true
  over (fun _ h => by cases h) (by kernel_rfl) (fun _ h => by cases h) fnExactDoubt_row_tie rfl ⟨rfl, rfl⟩ (by kernel_rfl) rfl
  (fun f fn hf hfn => by
    obtain rfl : f = 4 := Option.some.inj ((show Tryz.prog.funcNamed "loop.example/kilntrace/laws.FnExactDoubt" = some 4 by kernel_rfl).symm.trans hf) |>.symm
    obtain rfl : fn = Tryz.f4 := (Option.some.inj (Tryz.func4.symm.trans hfn)).symm
    exact ⟨by kernel_rfl, fun j t ht => by
     rw [Tryz.params4] at ht
     have hm : t ∈ [25, 38, 9] := by simpa using Array.mem_of_getElem? ht
     have hall : ([25, 38, 9].all fun u => !Tryz.prog.wantsStandIn u) = true := by kernel_rfl
     exact (show Tryz.prog.wantsStandIn t = false by simpa using List.all_eq_true.1 hall t hm)⟩)
  (by kernel_rfl)
end Go.Proofs.YtmelgjblkmbhjaaGreatDoor.fnExactDoubt
namespace Go.Proofs.YtmelgjblkmbhjaaGreatDoor
theorem fnExactDoubt_holds : Rows.FnExactDoubtCardSaid := fnExactDoubt.card
#print axioms fnExactDoubt_holds
end Go.Proofs.YtmelgjblkmbhjaaGreatDoor
