import Derived.Test.YtjlbcofopapajaaDoorRows
import Derived.Test.YtjlbcofopapajaaDoorAmTX
import Derived.Test.YtjlbcofopapajaaDoorAmRun
import Derived.Test.YtjlbcofopapajaaDoorAmPrs
import Derived.Lay
import Derived.LaidLaws
import Derived.WalkKit
import Derived.ProofKit
import Derived.OpenShut
import Derived.SizedLaws
import Derived.LaidMore
import Derived.Stop.Joined
namespace Go.Proofs.YtjlbcofopapajaaDoor.Amu.Facts
open Go Go.ChangeShapes Go.WideShapes Go.ChangeAt Go.RowKit Go.AM
set_option linter.unusedVariables false
set_option maxRecDepth 100000
theorem own : ownKnob Tryd.prog.godebug = none := by kernel_rfl
theorem laidOut : laidOutB Tryd.checked.prog = true := by kernel_rfl
theorem mapsRow : mapsRowed Tryd.checked.prog = true := by kernel_rfl
theorem plainK : (Rows.fnExactPrintProgramRow.plainKeys == Tryd.checked.prog.plainKeys) = true := by kernel_rfl
theorem stopsH : Tryd.checked.prog.stopsHeard = true := by kernel_rfl
theorem mayE : Tryd.checked.prog.mayEnter = true := by kernel_rfl
theorem lifts : (Rows.fnExactPrintProgramRow.lifted == Tryd.checked.prog.liftsFinal) = true := by kernel_rfl
theorem mixed : Tryd.checked.prog.follows .mixedOrders = true := by kernel_rfl
theorem andI {a b : Bool} (h : a = true) (k : b = true) : (a && b) = true := by rw [h, k]; rfl
def laid0 : List (String × DataW Unit) := [("math/bits.deBruijn32tab", Rows.laid_math_bits_deBruijn32tab), ("math/bits.deBruijn64tab", Rows.laid_math_bits_deBruijn64tab), ("internal/strconv.uint64pow10", Rows.laid_internal_strconv_uint64pow10), ("unicode/utf8.acceptRanges", Rows.laid_unicode_utf8_acceptRanges), ("strconv.ErrRange", Rows.laid_strconv_ErrRange), ("strconv.ErrSyntax", Rows.laid_strconv_ErrSyntax), ("loop.example/kilntrace/impl.ops", Rows.laid_loop_example_kilntrace_impl_ops), ("unicode/utf8.first", Rows.laid_unicode_utf8_first)]
theorem sh0 (os : Os) (args : Array Value) : ((World.laidAll Tryd.prog os laid0).forCall (fun _ _ => 0) ⟨#[], args, []⟩).Shaped Tryd.prog := World.shaped_of_ZipB (by kernel_rfl) (by kernel_rfl)
theorem door_met0 (os : Os) (args : Array Value) : laidMetH Tryd.prog laid0 ((World.laidAll Tryd.prog os laid0).forCall (fun _ _ => 0) ⟨#[], args, []⟩).memory := by
 rw [MakeChecks.laidMetH_plain _ _ _ (by kernel_rfl)]; exact laidMet_laidAll _ (by kernel_rfl) (by kernel_rfl)
set_option linter.defProp false
def tabL := ((LayT.slice (LayT.struct Tryd.underlying188 (by kernel_rfl) (LayF.cons (LayT.str Tryd.underlying9 (by kernel_rfl)) (LayF.cons (LayT.u8 Tryd.underlying5 (by kernel_rfl)) (LayF.cons (LayT.int Tryd.underlying3 (by kernel_rfl)) (LayF.one (LayT.int Tryd.underlying3 (by kernel_rfl))))))) Tryd.underlying189 (by kernel_rfl) (of_decide_eq_true (by kernel_rfl)) (by decide)) : LayT Tryd.prog 189 (List (ByteArray × UInt8 × Int × Int)) _ _)
theorem tabIs (d : DataW Unit) (x : TOp) (h : ∃ ds, d = .agg ds ∧ ∃ d1 r1, ds = d1 :: r1 ∧ d1 = .lit (.string x.1.data.toList) ∧ ∃ d2 r2, r1 = d2 :: r2 ∧ d2 = .lit (.int .u8 x.2.1.toNat) ∧ ∃ d3 r3, r2 = d3 :: r3 ∧ d3 = .lit (.int .i64 x.2.2.1) ∧ ∃ d4, r3 = [d4] ∧ d4 = .lit (.int .i64 x.2.2.2)) : ∃ ds, d = .agg ds ∧ TOpD Unit ds x := by
 obtain ⟨ds, rfl, d1, r1, rfl, rfl, d2, r2, rfl, rfl, d3, r3, rfl, rfl, d4, rfl, rfl⟩ := h
 exact ⟨_, rfl, rfl⟩
theorem tabOps : AllD (fun (d : DataW Unit) (x : TOp) => ∃ ds, d = .agg ds ∧ TOpD Unit ds x) [.agg [.lit (.string []), .lit (.int .u8 0), .lit (.int .i64 0), .lit (.int .i64 0)], .agg [.lit (.string [108, 105, 116]), .lit (.int .u8 116), .lit (.int .i64 0), .lit (.int .i64 1)], .agg [.lit (.string [99, 97, 116]), .lit (.int .u8 0), .lit (.int .i64 2), .lit (.int .i64 1)], .agg [.lit (.string [99, 117, 116]), .lit (.int .u8 110), .lit (.int .i64 1), .lit (.int .i64 1)], .agg [.lit (.string [114, 101, 115, 116]), .lit (.int .u8 110), .lit (.int .i64 1), .lit (.int .i64 1)], .agg [.lit (.string [119, 111, 114, 100]), .lit (.int .u8 110), .lit (.int .i64 1), .lit (.int .i64 1)], .agg [.lit (.string [115, 97, 109, 101]), .lit (.int .u8 0), .lit (.int .i64 2), .lit (.int .i64 1)], .agg [.lit (.string [100, 117, 112]), .lit (.int .u8 0), .lit (.int .i64 1), .lit (.int .i64 2)], .agg [.lit (.string [115, 119, 97, 112]), .lit (.int .u8 0), .lit (.int .i64 2), .lit (.int .i64 2)], .agg [.lit (.string [100, 114, 111, 112]), .lit (.int .u8 0), .lit (.int .i64 1), .lit (.int .i64 0)], .agg [.lit (.string [106, 117, 109, 112]), .lit (.int .u8 106), .lit (.int .i64 0), .lit (.int .i64 0)], .agg [.lit (.string [117, 110, 108, 101, 115, 115]), .lit (.int .u8 106), .lit (.int .i64 1), .lit (.int .i64 0)], .agg [.lit (.string [97, 115, 107]), .lit (.int .u8 0), .lit (.int .i64 1), .lit (.int .i64 1)], .agg [.lit (.string [104, 97, 115]), .lit (.int .u8 0), .lit (.int .i64 1), .lit (.int .i64 1)], .agg [.lit (.string [102, 97, 105, 108]), .lit (.int .u8 0), .lit (.int .i64 1), .lit (.int .i64 0)], .agg [.lit (.string [101, 110, 100]), .lit (.int .u8 0), .lit (.int .i64 1), .lit (.int .i64 0)]] opsL := by
 repeat' (first | exact trivial | refine ⟨⟨_, rfl, rfl⟩, ?_⟩)
theorem star : "*" ++ "errors.errorString" = "*errors.errorString" := by decide
theorem errRow (u : TypeId) (h : Tryd.prog.typeName? 3 u = some "*errors.errorString") : u = 320 := typeName_ptr_named (nm := "errors.errorString") (by rw [star]; kernel_rfl) (by kernel_rfl) (by decide) u (by rw [star]; exact h)
theorem start0 {W : World} (h : laidMetH Tryd.prog laid0 W) : ∃ m A, SimR Tryd.prog.globals.size W m A ∧ TabPowE 0 1 3 4 A := by
 rw [MakeChecks.laidMetH_plain _ _ _ (by kernel_rfl)] at h
 obtain ⟨ps, ⟨_, _, _, _, _, _, _, _, _, _, ⟨_, _, _, _, _, _, _, _, _, _, ⟨g1, t1, cs1, f1, p1, q1, hg1, ht1, hv1, hd1, ⟨_, _, _, _, _, _, _, _, _, _, ⟨g3, t3, cs3, f3, p3, q3, hg3, ht3, hv3, hd3, ⟨g2, t2, cs2, f2, p2, q2, hg2, ht2, hv2, hd2, ⟨g0, t0, cs0, f0, p0, q0, hg0, ht0, hv0, hd0, _, _⟩, _⟩, _⟩, _⟩, _⟩, _⟩, _⟩, _⟩ := h
 obtain rfl := Option.some.inj ((show Tryd.prog.globalNamed "loop.example/kilntrace/impl.ops" = some 0 by kernel_rfl).symm.trans hg0)
 obtain rfl := Option.some.inj ((show (Tryd.prog.globals[0]?).map (·.type) = some 189 by kernel_rfl).symm.trans ht0)
 obtain rfl := Option.some.inj ((show Tryd.prog.globalNamed "internal/strconv.uint64pow10" = some 1 by kernel_rfl).symm.trans hg1)
 obtain rfl := Option.some.inj ((show (Tryd.prog.globals[1]?).map (·.type) = some 304 by kernel_rfl).symm.trans ht1)
 obtain rfl := Option.some.inj ((show Tryd.prog.globalNamed "strconv.ErrSyntax" = some 3 by kernel_rfl).symm.trans hg2)
 obtain rfl := Option.some.inj ((show (Tryd.prog.globals[3]?).map (·.type) = some 103 by kernel_rfl).symm.trans ht2)
 obtain rfl := Option.some.inj ((show Tryd.prog.globalNamed "strconv.ErrRange" = some 4 by kernel_rfl).symm.trans hg3)
 obtain rfl := Option.some.inj ((show (Tryd.prog.globals[4]?).map (·.type) = some 103 by kernel_rfl).symm.trans ht3)
 obtain ⟨m, A, hS, hd⟩ := SimG.start Tryd.prog.globals.size W
 have hsz : ∀ v, v < Tryd.prog.globals.size → v < A.size := fun v hv => Nat.lt_of_lt_of_le hv hS.2.1
 obtain ⟨ma, Aa, ka, ea, sa, oa⟩ := hS.errv (tp := 320) Tryd.underlying103 errRow Tryd.underlying320 (by kernel_rfl) (of_decide_eq_true (by kernel_rfl)) hg2 hv2 hd2
 obtain ⟨mb, Ab, kb, eb, sb, ob⟩ := ka.errv (tp := 320) Tryd.underlying103 errRow Tryd.underlying320 (by kernel_rfl) (of_decide_eq_true (by kernel_rfl)) hg3 hv3 hd3
 have hda : ∀ v, v < Tryd.prog.globals.size → v ≠ 3 → v ≠ 4 → Ab.get v = .dead := fun v hv h1 h2 => (ob v (Nat.lt_of_lt_of_le (hsz v hv) sa) h2).trans ((oa v (hsz v hv) h1).trans (hd _))
 obtain ⟨m', A', x, c, F, g1, g2, g3, g4, g5, g6, g7⟩ := kb.table tabL (of_decide_eq_true (by kernel_rfl)) hg0 hv0 hd0 (fun k hk => by
  have := List.all_eq_true.1 (show ((Rows.laid_loop_example_kilntrace_impl_ops : DataW Unit).weights Tryd.prog 189).all (· ≤ reachBytes) = true by kernel_rfl) k hk
  simpa using this) (hda _ (of_decide_eq_true (by kernel_rfl)) (by decide) (by decide)) (fun A' x c F hr b hb => by obtain ⟨s, _, hr⟩ := hr; exact flat_foot hr b hb)
 obtain ⟨s, rfl, hr⟩ := g3
 have hx : x = opsL := by
  rcases g5 with ⟨h, _⟩ | ⟨es, sp, h, k⟩
  ·cases h
  ·cases h
   exact AllD.map (l := []) (isd := fun d x => ∃ ds, d = .agg ds ∧ TOpD Unit ds x) (fun d x y ⟨a, ha, ka⟩ ⟨b, hb, kb⟩ => by rw [ha] at hb; cases hb; exact ka.fun kb) (AllD.mono tabIs k) tabOps
 subst hx
 have hgA : ∀ v, v < Tryd.prog.globals.size → v < A'.size := fun v hv => Nat.lt_of_lt_of_le hv g1.2.1
 have hgb : ∀ v, v < Tryd.prog.globals.size → v < Ab.size := fun v hv => Nat.lt_of_lt_of_le (hsz v hv) (Nat.le_trans sa sb)
 have hgp : A'.get 1 = .dead := (g7 1 (hgb _ (of_decide_eq_true (by kernel_rfl))) (by decide)).trans (hda _ (of_decide_eq_true (by kernel_rfl)) (by decide) (by decide))
 have hl : (Rows.laid_internal_strconv_uint64pow10 : DataW Unit) = .agg (((List.range 20).map fun i => ((10 ^ i : Nat) : Int)).map fun x => .lit (.int .u64 x)) := by kernel_rfl
 have hd1' := hd1
 rw [hl] at hd1'
 have k1 := g1.ints (k := .u64) Tryd.underlying304 Tryd.underlying254 (by kernel_rfl) (by kernel_rfl) (of_decide_eq_true (by kernel_rfl)) hg1 hv1 hd1'
 have eS : ErrV 3 (A'.put 1 (.cells (((List.range 20).map fun i => ((10 ^ i : Nat) : Int)).map (Value.int .u64)) 1)) := by
  obtain ⟨_, T, y, hy⟩ := ea
  exact ⟨hgA _ (of_decide_eq_true (by kernel_rfl)), T, y, (AH.gPo (by decide)).trans ((g7 3 (hgb _ (of_decide_eq_true (by kernel_rfl))) (by decide)).trans ((ob 3 (Nat.lt_of_lt_of_le (hsz _ (of_decide_eq_true (by kernel_rfl))) sa) (by decide)).trans hy))⟩
 have eR : ErrV 4 (A'.put 1 (.cells (((List.range 20).map fun i => ((10 ^ i : Nat) : Int)).map (Value.int .u64)) 1)) := by
  obtain ⟨_, T, y, hy⟩ := eb
  exact ⟨hgA _ (of_decide_eq_true (by kernel_rfl)), T, y, (AH.gPo (by decide)).trans ((g7 4 (hgb _ (of_decide_eq_true (by kernel_rfl))) (by decide)).trans hy)⟩
 exact ⟨m', _, k1.1, ⟨⟨s, F, (AH.gPo (by decide)).trans g2, hgA _ (of_decide_eq_true (by kernel_rfl)), hr.frame fun b hb => ⟨AH.gPo (fun e => flat_foot hr b hb (by rw [e]; exact hgp)), hr.bound b hb⟩⟩, Pow.put (hgA _ (of_decide_eq_true (by kernel_rfl)))⟩, eS, eR⟩
end Go.Proofs.YtjlbcofopapajaaDoor.Amu.Facts
