import Derived.Test.YtjlbcofopapajaaDoorRows
import Derived.Test.YtjlbcofopapajaaDoorAmTX
import Derived.Test.YtjlbcofopapajaaDoorAmRun
import Derived.WalkKit
import Derived.ProofKit
import Derived.OpenShut
import Derived.SizedLaws
import Derived.LaidMore
import Derived.Stop.Joined
namespace Go.Proofs.YtjlbcofopapajaaDoor.Amu.Facts
open Go Go.ChangeShapes Go.WideShapes Go.ChangeAt Go.RowKit Go.AM
set_option linter.unusedVariables false
set_option maxRecDepth 100000
theorem own : ownKnob Tryd.prog.godebug = none := by kernel_rfl
theorem laidOut : laidOutB Tryd.checked.prog = true := by kernel_rfl
theorem mapsRow : mapsRowed Tryd.checked.prog = true := by kernel_rfl
theorem plainK : (Rows.fnExactPrintProgramRow.plainKeys == Tryd.checked.prog.plainKeys) = true := by kernel_rfl
theorem stopsH : Tryd.checked.prog.stopsHeard = true := by kernel_rfl
theorem mayE : Tryd.checked.prog.mayEnter = true := by kernel_rfl
theorem lifts : (Rows.fnExactPrintProgramRow.lifted == Tryd.checked.prog.liftsFinal) = true := by kernel_rfl
theorem mixed : Tryd.checked.prog.follows .mixedOrders = true := by kernel_rfl
theorem andI {a b : Bool} (h : a = true) (k : b = true) : (a && b) = true := by rw [h, k]; rfl
theorem door_shaped (os : Os) (args : Array Value) : ((World.doorLaid Tryd.prog 400 os).forCall (fun _ _ => 0) ⟨#[], args, []⟩).Shaped Tryd.prog := World.shaped_of_RefB (by kernel_rfl) (by kernel_rfl)
def laid0 : List (String × DataW Unit) := [("math/bits.deBruijn32tab", Rows.laid_math_bits_deBruijn32tab), ("math/bits.deBruijn64tab", Rows.laid_math_bits_deBruijn64tab), ("internal/strconv.uint64pow10", Rows.laid_internal_strconv_uint64pow10), ("loop.example/kilntrace/impl.ops", Rows.laid_loop_example_kilntrace_impl_ops)]
theorem door_met0 (os : Os) (args : Array Value) : laidMetH Tryd.prog laid0 ((World.doorLaid Tryd.prog 400 os).forCall (fun _ _ => 0) ⟨#[], args, []⟩).memory :=
 laidMetH_of_parts3 (fuel := 8) (laidMet_of_run' 8 (by kernel_rfl) (by kernel_rfl)) (by kernel_rfl) (by kernel_rfl)
def laid1 : List (String × DataW Unit) := [("loop.example/kilntrace/impl.ops", Rows.laid_loop_example_kilntrace_impl_ops)]
theorem door_met1 (os : Os) (args : Array Value) : laidMetH Tryd.prog laid1 ((World.doorLaid Tryd.prog 400 os).forCall (fun _ _ => 0) ⟨#[], args, []⟩).memory :=
 laidMetH_of_parts3 (fuel := 8) (laidMet_of_run' 8 (by kernel_rfl) (by kernel_rfl)) (by kernel_rfl) (by kernel_rfl)
set_option linter.defProp false
def tabL := ((LayT.slice (LayT.struct Tryd.underlying188 (by kernel_rfl) (LayF.cons (LayT.str Tryd.underlying9 (by kernel_rfl)) (LayF.cons (LayT.u8 Tryd.underlying5 (by kernel_rfl)) (LayF.cons (LayT.int Tryd.underlying3 (by kernel_rfl)) (LayF.one (LayT.int Tryd.underlying3 (by kernel_rfl))))))) Tryd.underlying189 (by kernel_rfl) (of_decide_eq_true (by kernel_rfl)) (by decide)) : LayT Tryd.prog 189 (List (ByteArray × UInt8 × Int × Int)) _ _)
theorem tabIs (d : DataW Unit) (x : TOp) (h : ∃ ds, d = .agg ds ∧ ∃ d1 r1, ds = d1 :: r1 ∧ d1 = .lit (.string x.1.data.toList) ∧ ∃ d2 r2, r1 = d2 :: r2 ∧ d2 = .lit (.int .u8 x.2.1.toNat) ∧ ∃ d3 r3, r2 = d3 :: r3 ∧ d3 = .lit (.int .i64 x.2.2.1) ∧ ∃ d4, r3 = [d4] ∧ d4 = .lit (.int .i64 x.2.2.2)) : ∃ ds, d = .agg ds ∧ TOpD Unit ds x := by
 obtain ⟨ds, rfl, d1, r1, rfl, rfl, d2, r2, rfl, rfl, d3, r3, rfl, rfl, d4, rfl, rfl⟩ := h
 exact ⟨_, rfl, rfl⟩
theorem tabOps : AllD (fun (d : DataW Unit) (x : TOp) => ∃ ds, d = .agg ds ∧ TOpD Unit ds x) [.agg [.lit (.string []), .lit (.int .u8 0), .lit (.int .i64 0), .lit (.int .i64 0)], .agg [.lit (.string [108, 105, 116]), .lit (.int .u8 116), .lit (.int .i64 0), .lit (.int .i64 1)], .agg [.lit (.string [99, 97, 116]), .lit (.int .u8 0), .lit (.int .i64 2), .lit (.int .i64 1)], .agg [.lit (.string [99, 117, 116]), .lit (.int .u8 110), .lit (.int .i64 1), .lit (.int .i64 1)], .agg [.lit (.string [114, 101, 115, 116]), .lit (.int .u8 110), .lit (.int .i64 1), .lit (.int .i64 1)], .agg [.lit (.string [119, 111, 114, 100]), .lit (.int .u8 110), .lit (.int .i64 1), .lit (.int .i64 1)], .agg [.lit (.string [115, 97, 109, 101]), .lit (.int .u8 0), .lit (.int .i64 2), .lit (.int .i64 1)], .agg [.lit (.string [100, 117, 112]), .lit (.int .u8 0), .lit (.int .i64 1), .lit (.int .i64 2)], .agg [.lit (.string [115, 119, 97, 112]), .lit (.int .u8 0), .lit (.int .i64 2), .lit (.int .i64 2)], .agg [.lit (.string [100, 114, 111, 112]), .lit (.int .u8 0), .lit (.int .i64 1), .lit (.int .i64 0)], .agg [.lit (.string [106, 117, 109, 112]), .lit (.int .u8 106), .lit (.int .i64 0), .lit (.int .i64 0)], .agg [.lit (.string [117, 110, 108, 101, 115, 115]), .lit (.int .u8 106), .lit (.int .i64 1), .lit (.int .i64 0)], .agg [.lit (.string [97, 115, 107]), .lit (.int .u8 0), .lit (.int .i64 1), .lit (.int .i64 1)], .agg [.lit (.string [104, 97, 115]), .lit (.int .u8 0), .lit (.int .i64 1), .lit (.int .i64 1)], .agg [.lit (.string [102, 97, 105, 108]), .lit (.int .u8 0), .lit (.int .i64 1), .lit (.int .i64 0)], .agg [.lit (.string [101, 110, 100]), .lit (.int .u8 0), .lit (.int .i64 1), .lit (.int .i64 0)]] opsL := by
 repeat' (first | exact trivial | refine ⟨⟨_, rfl, rfl⟩, ?_⟩)
theorem start0 {W : World} (h : laidMetH Tryd.prog laid0 W) : ∃ m A, SimR Tryd.prog.globals.size W m A ∧ TabPow 0 1 A := by
 rw [MakeChecks.laidMetH_plain _ _ _ (by kernel_rfl)] at h
 obtain ⟨ps, ⟨_, _, _, _, _, _, _, _, _, _, ⟨_, _, _, _, _, _, _, _, _, _, ⟨g1, t1, cs1, f1, p1, q1, hg1, ht1, hv1, hd1, ⟨g0, t0, cs0, f0, p0, q0, hg0, ht0, hv0, hd0, _, _⟩, _⟩, _⟩, _⟩, _⟩ := h
 obtain rfl := Option.some.inj ((show Tryd.prog.globalNamed "loop.example/kilntrace/impl.ops" = some 0 by kernel_rfl).symm.trans hg0)
 obtain rfl := Option.some.inj ((show (Tryd.prog.globals[0]?).map (·.type) = some 189 by kernel_rfl).symm.trans ht0)
 obtain rfl := Option.some.inj ((show Tryd.prog.globalNamed "internal/strconv.uint64pow10" = some 1 by kernel_rfl).symm.trans hg1)
 obtain rfl := Option.some.inj ((show (Tryd.prog.globals[1]?).map (·.type) = some 304 by kernel_rfl).symm.trans ht1)
 obtain ⟨m, A, hS, hd⟩ := SimG.start Tryd.prog.globals.size W
 obtain ⟨m', A', x, c, F, g1, g2, g3, g4, g5, g6, g7⟩ := hS.table tabL (of_decide_eq_true (by kernel_rfl)) hg0 hv0 hd0 (fun k hk => by
  have := List.all_eq_true.1 (show ((Rows.laid_loop_example_kilntrace_impl_ops : DataW Unit).weights Tryd.prog 189).all (· ≤ reachBytes) = true by kernel_rfl) k hk
  simpa using this) (hd _) (fun A' x c F hr b hb => by obtain ⟨s, _, hr⟩ := hr; exact flat_foot hr b hb)
 obtain ⟨s, rfl, hr⟩ := g3
 have hx : x = opsL := by
  rcases g5 with ⟨h, _⟩ | ⟨es, sp, h, k⟩
  ·cases h
  ·cases h
   exact AllD.map (l := []) (isd := fun d x => ∃ ds, d = .agg ds ∧ TOpD Unit ds x) (fun d x y ⟨a, ha, ka⟩ ⟨b, hb, kb⟩ => by rw [ha] at hb; cases hb; exact ka.fun kb) (AllD.mono tabIs k) tabOps
 subst hx
 have hlt := g1.1.dlt
 have hgA : ∀ v, v < Tryd.prog.globals.size → v < A'.size := fun v hv => Nat.lt_of_lt_of_le hv g1.2.1
 have hgp : A'.get 1 = .dead := (g7 1 (Nat.lt_of_lt_of_le (of_decide_eq_true (by kernel_rfl)) hS.2.1) (by decide)).trans (hd _)
 have hl : (Rows.laid_internal_strconv_uint64pow10 : DataW Unit) = .agg (((List.range 20).map fun i => ((10 ^ i : Nat) : Int)).map fun x => .lit (.int .u64 x)) := by kernel_rfl
 have hd1' := hd1
 rw [hl] at hd1'
 have k1 := g1.ints (k := .u64) Tryd.underlying304 Tryd.underlying254 (by kernel_rfl) (by kernel_rfl) (of_decide_eq_true (by kernel_rfl)) hg1 hv1 hd1'
 exact ⟨m', _, k1.1, ⟨s, F, (AH.gPo (by decide)).trans g2, hgA _ (of_decide_eq_true (by kernel_rfl)), hr.frame fun b hb => ⟨AH.gPo (fun e => flat_foot hr b hb (by rw [e]; exact hgp)), hr.bound b hb⟩⟩, Pow.put (hgA _ (of_decide_eq_true (by kernel_rfl)))⟩
theorem start1 {W : World} (h : laidMetH Tryd.prog laid1 W) : ∃ m A, SimR Tryd.prog.globals.size W m A ∧ Tab 0 A := by
 rw [MakeChecks.laidMetH_plain _ _ _ (by kernel_rfl)] at h
 obtain ⟨ps, ⟨g0, t0, cs0, f0, p0, q0, hg0, ht0, hv0, hd0, _, _⟩, _⟩ := h
 obtain rfl := Option.some.inj ((show Tryd.prog.globalNamed "loop.example/kilntrace/impl.ops" = some 0 by kernel_rfl).symm.trans hg0)
 obtain rfl := Option.some.inj ((show (Tryd.prog.globals[0]?).map (·.type) = some 189 by kernel_rfl).symm.trans ht0)
 obtain ⟨m, A, hS, hd⟩ := SimG.start Tryd.prog.globals.size W
 obtain ⟨m', A', x, c, F, g1, g2, g3, g4, g5, g6, _⟩ := hS.table tabL (of_decide_eq_true (by kernel_rfl)) hg0 hv0 hd0 (fun k hk => by
  have := List.all_eq_true.1 (show ((Rows.laid_loop_example_kilntrace_impl_ops : DataW Unit).weights Tryd.prog 189).all (· ≤ reachBytes) = true by kernel_rfl) k hk
  simpa using this) (hd _) (fun A' x c F hr b hb => by obtain ⟨s, _, hr⟩ := hr; exact flat_foot hr b hb)
 obtain ⟨s, rfl, hr⟩ := g3
 have hx : x = opsL := by
  rcases g5 with ⟨h, _⟩ | ⟨es, sp, h, k⟩
  ·cases h
  ·cases h
   exact AllD.map (l := []) (isd := fun d x => ∃ ds, d = .agg ds ∧ TOpD Unit ds x) (fun d x y ⟨a, ha, ka⟩ ⟨b, hb, kb⟩ => by rw [ha] at hb; cases hb; exact ka.fun kb) (AllD.mono tabIs k) tabOps
 subst hx
 exact ⟨m', A', g1.1, s, F, g2, by have := g1.1.dlt; exact Nat.lt_of_lt_of_le (of_decide_eq_true (by kernel_rfl)) g1.2.1, hr⟩
end Go.Proofs.YtjlbcofopapajaaDoor.Amu.Facts
