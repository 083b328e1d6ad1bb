/- FnExactValidStore: whatever the input, the law returns true. -/
import Derived.Test.YtcdnlghlbljopaaDoorRows
import Derived.Test.YtcdnlghlbljopaaDoorCards
import Derived.Test.YtcdnlghlbljopaaDoorTie
import Derived.Test.YtcdnlghlbljopaaDoorAmT1
import Derived.Test.YtcdnlghlbljopaaDoorAmuLValidStore
import Derived.WalkKit
import Derived.ProofKit
import Derived.OpenShut
import Derived.SizedLaws
import Derived.LaidMore
import Derived.Stop.Joined
import Derived.SevenTiedAt
namespace Go.Proofs.YtcdnlghlbljopaaDoor.fnExactValidStore
open Go Go.ChangeShapes Go.WideShapes Go.ChangeAt Go.RowKit Go.AM
set_option linter.unusedVariables false
set_option maxRecDepth 100000
theorem own : ownKnob Tryd.prog.godebug = none := by kernel_rfl
set_option linter.defProp false
def argsL := (ArgsL.cons (ArgL.struct (LayT.struct Tryd.underlying50 (by kernel_rfl) (LayF.cons (LayT.int Tryd.underlying3 (by kernel_rfl)) (LayF.cons (LayT.slice (LayT.str Tryd.underlying9 (by kernel_rfl)) Tryd.underlying47 (by kernel_rfl) (of_decide_eq_true (by kernel_rfl)) (by decide)) (LayF.one (LayT.slice (LayT.struct Tryd.underlying208 (by kernel_rfl) (LayF.cons (LayT.struct Tryd.underlying24 (by kernel_rfl) (LayF.one (LayT.slice (LayT.struct Tryd.underlying187 (by kernel_rfl) (LayF.cons (LayT.int Tryd.underlying3 (by kernel_rfl)) (LayF.cons (LayT.str Tryd.underlying9 (by kernel_rfl)) (LayF.one (LayT.int Tryd.underlying3 (by kernel_rfl)))))) Tryd.underlying22 (by kernel_rfl) (of_decide_eq_true (by kernel_rfl)) (by decide)))) (LayF.cons (LayT.slice (LayT.struct Tryd.underlying234 (by kernel_rfl) (LayF.cons (LayT.str Tryd.underlying9 (by kernel_rfl)) (LayF.cons (LayT.bool Tryd.underlying4 (by kernel_rfl)) (LayF.one (LayT.str Tryd.underlying9 (by kernel_rfl)))))) Tryd.underlying206 (by kernel_rfl) (of_decide_eq_true (by kernel_rfl)) (by decide)) (LayF.one (LayT.str Tryd.underlying9 (by kernel_rfl)))))) Tryd.underlying48 (by kernel_rfl) (of_decide_eq_true (by kernel_rfl)) (by decide)))))) Tryd.underlying50) (ArgsL.nil) : ArgsL Tryd.prog [50] _)
def argQ (A : AH) (us : List Value) : Prop := ∃ (x0 : (Int) × (List (ByteArray)) × (List (((List ((Int) × (ByteArray) × (Int)))) × (List ((ByteArray) × (Bool) × (ByteArray))) × (ByteArray)))) (u0 : Value) (us1 : List Value), us = u0 :: us1 ∧ CellN A x0 u0 ∧ ((-9223372036854775808 ≤ x0.1 ∧ x0.1 ≤ 9223372036854775807) ∧ (x0.2.1.length ≤ reachBytes ∧ ∀ v ∈ x0.2.1, v.size ≤ reachBytes) ∧ (x0.2.2.length ≤ reachBytes ∧ ∀ v ∈ x0.2.2, ((v.1.length ≤ reachBytes ∧ ∀ v ∈ v.1, (-9223372036854775808 ≤ v.1 ∧ v.1 ≤ 9223372036854775807) ∧ (v.2.1.size ≤ reachBytes) ∧ (-9223372036854775808 ≤ v.2.2 ∧ v.2.2 ≤ 9223372036854775807))) ∧ (v.2.1.length ≤ reachBytes ∧ ∀ v ∈ v.2.1, (v.1.size ≤ reachBytes) ∧ (True) ∧ (v.2.2.size ≤ reachBytes)) ∧ (v.2.2.size ≤ reachBytes))) ∧ us1 = []
theorem argsQ : ArgsL Tryd.prog [50] argQ := argsL
theorem law (A : AH) (us : List Value) (hG : Tab 0 A) (hQ : argQ A us) : ACalls Tryd.prog A.size (fun _ _ _ _ _ => False) 6 us A (fun r _ => r = .ret (.bool true)) := by
  obtain ⟨x0, u0, _, rfl, h0, z0, rfl⟩ := hQ
  obtain ⟨c0, F0, rfl, r0⟩ := h0
  exact Amu.LValidStore.law_a A (Nat.le_refl _) hG x0 c0 F0 r0 ((fun h => ⟨(fun _ => trivial) h.1, (fun h => ⟨(fun h => ⟨Nat.lt_of_le_of_lt h.1 (by decide), fun v hv => (fun h => Nat.lt_of_le_of_lt h (by decide)) (h.2 v hv)⟩) h.1, (fun h => ⟨Nat.lt_of_le_of_lt h.1 (by decide), fun v hv => (fun h => ⟨(fun h => ⟨Nat.lt_of_le_of_lt h.1 (by decide), fun v hv => (fun h => ⟨(fun _ => trivial) h.1, (fun h => ⟨(fun h => Nat.lt_of_le_of_lt h (by decide)) h.1, (fun _ => trivial) h.2⟩) h.2⟩) (h.2 v hv)⟩) h.1, (fun h => ⟨(fun h => ⟨Nat.lt_of_le_of_lt h.1 (by decide), fun v hv => (fun h => ⟨(fun h => Nat.lt_of_le_of_lt h (by decide)) h.1, (fun h => ⟨(fun _ => trivial) h.1, (fun h => Nat.lt_of_le_of_lt h (by decide)) h.2⟩) h.2⟩) (h.2 v hv)⟩) h.1, (fun h => Nat.lt_of_le_of_lt h (by decide)) h.2⟩) h.2⟩) (h.2 v hv)⟩) h.2⟩) h.2⟩) z0)
def laidL : List (String × DataW Unit) := [("loop.example/kilntrace/impl.ops", Rows.laid_loop_example_kilntrace_impl_ops)]
theorem door_met (os : Os) (args : Array Value) : laidMetH Tryd.prog laidL ((World.doorLaid Tryd.prog 400 os).forCall (fun _ _ => 0) ⟨#[], args, []⟩).memory :=
  laidMetH_of_parts3 (fuel := 8) (laidMet_of_run' 8 (by kernel_rfl) (by kernel_rfl)) (by kernel_rfl) (by kernel_rfl)
def tabL := ((LayT.slice (LayT.struct Tryd.underlying192 (by kernel_rfl) (LayF.cons (LayT.str Tryd.underlying9 (by kernel_rfl)) (LayF.cons (LayT.u8 Tryd.underlying5 (by kernel_rfl)) (LayF.cons (LayT.int Tryd.underlying3 (by kernel_rfl)) (LayF.one (LayT.int Tryd.underlying3 (by kernel_rfl))))))) Tryd.underlying193 (by kernel_rfl) (of_decide_eq_true (by kernel_rfl)) (by decide)) : LayT Tryd.prog 193 (List (ByteArray × UInt8 × Int × Int)) _ _)
theorem tabIs (d : DataW Unit) (x : TOp) (h : ∃ ds, d = .agg ds ∧ ∃ d1 r1, ds = d1 :: r1 ∧ d1 = .lit (.string x.1.data.toList) ∧ ∃ d2 r2, r1 = d2 :: r2 ∧ d2 = .lit (.int .u8 x.2.1.toNat) ∧ ∃ d3 r3, r2 = d3 :: r3 ∧ d3 = .lit (.int .i64 x.2.2.1) ∧ ∃ d4, r3 = [d4] ∧ d4 = .lit (.int .i64 x.2.2.2)) : ∃ ds, d = .agg ds ∧ TOpD Unit ds x := by
  obtain ⟨ds, rfl, d1, r1, rfl, rfl, d2, r2, rfl, rfl, d3, r3, rfl, rfl, d4, rfl, rfl⟩ := h
  exact ⟨_, rfl, rfl⟩
theorem tabOps : AllD (fun (d : DataW Unit) (x : TOp) => ∃ ds, d = .agg ds ∧ TOpD Unit ds x) [.agg [.lit (.string []), .lit (.int .u8 0), .lit (.int .i64 0), .lit (.int .i64 0)], .agg [.lit (.string [108, 105, 116]), .lit (.int .u8 116), .lit (.int .i64 0), .lit (.int .i64 1)], .agg [.lit (.string [99, 97, 116]), .lit (.int .u8 0), .lit (.int .i64 2), .lit (.int .i64 1)], .agg [.lit (.string [99, 117, 116]), .lit (.int .u8 110), .lit (.int .i64 1), .lit (.int .i64 1)], .agg [.lit (.string [114, 101, 115, 116]), .lit (.int .u8 110), .lit (.int .i64 1), .lit (.int .i64 1)], .agg [.lit (.string [119, 111, 114, 100]), .lit (.int .u8 110), .lit (.int .i64 1), .lit (.int .i64 1)], .agg [.lit (.string [115, 97, 109, 101]), .lit (.int .u8 0), .lit (.int .i64 2), .lit (.int .i64 1)], .agg [.lit (.string [100, 117, 112]), .lit (.int .u8 0), .lit (.int .i64 1), .lit (.int .i64 2)], .agg [.lit (.string [115, 119, 97, 112]), .lit (.int .u8 0), .lit (.int .i64 2), .lit (.int .i64 2)], .agg [.lit (.string [100, 114, 111, 112]), .lit (.int .u8 0), .lit (.int .i64 1), .lit (.int .i64 0)], .agg [.lit (.string [106, 117, 109, 112]), .lit (.int .u8 106), .lit (.int .i64 0), .lit (.int .i64 0)], .agg [.lit (.string [117, 110, 108, 101, 115, 115]), .lit (.int .u8 106), .lit (.int .i64 1), .lit (.int .i64 0)], .agg [.lit (.string [97, 115, 107]), .lit (.int .u8 0), .lit (.int .i64 1), .lit (.int .i64 1)], .agg [.lit (.string [104, 97, 115]), .lit (.int .u8 0), .lit (.int .i64 1), .lit (.int .i64 1)], .agg [.lit (.string [102, 97, 105, 108]), .lit (.int .u8 0), .lit (.int .i64 1), .lit (.int .i64 0)], .agg [.lit (.string [101, 110, 100]), .lit (.int .u8 0), .lit (.int .i64 1), .lit (.int .i64 0)]] opsL := by
  repeat' (first | exact trivial | refine ⟨⟨_, rfl, rfl⟩, ?_⟩)
theorem start {W : World} (h : laidMetH Tryd.prog laidL W) : ∃ m A, SimR Tryd.prog.globals.size W m A ∧ Tab 0 A := by
  rw [MakeChecks.laidMetH_plain _ _ _ (by kernel_rfl)] at h
  obtain ⟨ps, ⟨g0, t0, cs0, f0, p0, q0, hg0, ht0, hv0, hd0, _, _⟩, _⟩ := h
  obtain rfl := Option.some.inj ((show Tryd.prog.globalNamed "loop.example/kilntrace/impl.ops" = some 0 by kernel_rfl).symm.trans hg0)
  obtain rfl := Option.some.inj ((show (Tryd.prog.globals[0]?).map (·.type) = some 193 by kernel_rfl).symm.trans ht0)
  obtain ⟨m, A, hS, hd⟩ := SimG.start Tryd.prog.globals.size W
  obtain ⟨m', A', x, c, F, g1, g2, g3, g4, g5, g6, _⟩ := hS.table tabL (of_decide_eq_true (by kernel_rfl)) hg0 hv0 hd0 (fun k hk => by
      have := List.all_eq_true.1 (show ((Rows.laid_loop_example_kilntrace_impl_ops : DataW Unit).weights Tryd.prog 193).all (· ≤ reachBytes) = true by kernel_rfl) k hk
      simpa using this) (hd _) (fun A' x c F hr b hb => by obtain ⟨s, _, hr⟩ := hr; exact flat_foot hr b hb)
  obtain ⟨s, rfl, hr⟩ := g3
  have hx : x = opsL := by
    rcases g5 with ⟨h, _⟩ | ⟨es, sp, h, k⟩
    · cases h
    · cases h
      exact AllD.map (l := []) (isd := fun d x => ∃ ds, d = .agg ds ∧ TOpD Unit ds x) (fun d x y ⟨a, ha, ka⟩ ⟨b, hb, kb⟩ => by rw [ha] at hb; cases hb; exact ka.fun kb) (AllD.mono tabIs k) tabOps
  subst hx
  exact ⟨m', A', g1.1, s, F, g2, by have := g1.1.dlt; exact Nat.lt_of_lt_of_le (of_decide_eq_true (by kernel_rfl)) g1.2.1, hr⟩
theorem lifted (os : Os) (started : os.Started) (H : Type) (enc : TypeId × Value → H) :
    ReturnsInHanded {} Tryd.checked os 6 .any (fun w args => (Rows.fnExactValidStoreSpec.pre enc Tryd.prog Tryd.f6 [] false w args ∧ laidMetH Tryd.prog laidL w) ∧ sizedMet enc Tryd.prog Tryd.f6 (OpenSpec.ofChange Rows.fnExactValidStoreSpec) false w args)
      (Rows.fnExactValidStoreSpec.post enc Tryd.prog Tryd.f6 false true false false) := by
  refine returnsInHanded_of_change_and (C := Tryd.checked) (X := fun w _ => laidMetH Tryd.prog laidL w) (fun _ _ _ hh h => h.of_heap hh) own started (by kernel_rfl) Tryd.func6
    (ChangeSpec.witness_shaped (enc := enc) (C := Tryd.checked) (os := os) (X := fun w _ => laidMetH Tryd.prog laidL w) false (World.doorLaid Tryd.prog 400 os) #[.agg #[.int .i64 0, .slice none 0 0, .slice none 0 0]] 8 rfl (World.shaped_of_RefB (by kernel_rfl) (by kernel_rfl)) (by kernel_rfl) (by kernel_rfl) (by kernel_rfl) (door_met os _)) ?_
  intro W base args ds gs before hval hW _ hsz hL _
  obtain ⟨m, A, hS, hG⟩ := start hL
  exact law_returns (X := fun _ _ _ _ _ => False) (ts := [50]) (G := Tab 0) (Q := argQ) (tb := 4) Tryd.func6 rfl (by kernel_rfl) (by kernel_rfl) (fun _ _ _ _ _ _ _ _ h => h.elim) (by kernel_rfl) (by kernel_rfl) Tryd.underlying4 (by kernel_rfl) (by kernel_rfl) (by kernel_rfl)
    (fun H ds gs hd hg => by
      match ds, hd with
      | [_], _ => match gs, hg with
        | [_], _ => rfl) argsQ (fun h hE => h.ext hE) law hval hW hsz hS hG
theorem over : Rows.fnExactValidStoreRow.holds Tryd.pinned (OpenSpec.ofChange Rows.fnExactValidStoreSpec) :=
  OpenClaim.holds_of_wide 6 Tryd.f6 rfl rfl rfl rfl rfl rfl rfl ⟨rfl, rfl, rfl, rfl, rfl⟩ rfl rfl rfl rfl rfl (by kernel_rfl) Tryd.func6 (by kernel_rfl)
    (of_decide_eq_true (by kernel_rfl)) (by unfold Func.isWrapper; first | (rw [if_pos (by decide +kernel)]; kernel_rfl) | (rw [if_neg (by decide +kernel)]; exact ⟨rfl, rfl⟩))
    (fun os started H enc _ => lifted os started H enc)
theorem card : Claim7.holds Tryd.pinned (.plain (OpenSpec.ofChange Rows.fnExactValidStoreSpec)) Rows.fnExactValidStoreCard :=
  Claim7.holds_tied_plain_at .later [] [.data] true (true, "586f7642ff347e89a38fc550382623073d5788cb860115320908d46d3308401e") false
    over (fun _ h => by cases h) (by kernel_rfl) (fun _ h => by cases h) fnExactValidStore_row_tie rfl ⟨rfl, rfl⟩ (by kernel_rfl) rfl
    (fun f fn hf hfn => by
      obtain rfl : f = 6 := Option.some.inj ((show Tryd.prog.funcNamed "loop.example/kilntrace/laws.FnExactValidStore" = some 6 by kernel_rfl).symm.trans hf) |>.symm
      obtain rfl : fn = Tryd.f6 := (Option.some.inj (Tryd.func6.symm.trans hfn)).symm
      exact ⟨by kernel_rfl, fun j t ht => by
        rw [Tryd.params6] at ht
        have hm : t ∈ [50] := by simpa using Array.mem_of_getElem? ht
        have hall : ([50].all fun u => !Tryd.prog.wantsStandIn u) = true := by kernel_rfl
        exact (show Tryd.prog.wantsStandIn t = false by simpa using List.all_eq_true.1 hall t hm)⟩)
    (by kernel_rfl)
end Go.Proofs.YtcdnlghlbljopaaDoor.fnExactValidStore
namespace Go.Proofs.YtcdnlghlbljopaaDoor
/-- The row, under a short name, for the claim. -/
theorem fnExactValidStore_holds : Rows.FnExactValidStoreCardSaid := fnExactValidStore.card
#print axioms fnExactValidStore_holds
end Go.Proofs.YtcdnlghlbljopaaDoor
