/-
  NARROWER THAN 'FOR EVERY INPUT', by the rows' own cells (each row's printed sentence says how): FnExactPrintProgram: laid · FnExactPrintStore: laid · FnExactPutSource: laid · FnExactPutTarget: laid · FnExactParseProgram: laid · FnProgram: laid · FnTrail: laid · FnReplay: laid.
  DERIVED. THE GIVEN ROWS OF THIS SEAT. 8 by the template 'for every input the law returns true; each argument reads behind the call as it read before'; 0 by the template 'total and deterministic' (their statements: YtjlbcofopapajaaDoorTotals.lean).
  GIVEN WITH THE SEED: the statements are not yours to turn. If you find one false, say at which input.
  Laid BY PROGRAM, IN A SANDBOX (cutbox-rows.mjs): the forced cells as the released guide's own fill.sh prints them over the translation 3c9dea84ae1f2293… (all of the seat's roots in one cut). By AI agents, Wed Nov 11 2026. No macro, syntax, notation, axiom, sorry.
-/
import Derived.Test.YtjlbcofopapajaaDoorChecked
import GoSem.PinnedTables
import GoSem.Claim
import GoSem.ClaimJoined
import GoSem.ClaimMapViews
import Derived.JoinedTies
import Derived.KernelRfl
namespace Go.Proofs.YtjlbcofopapajaaDoor
/- THE CELL 'sum', in the pinned program and in every row, IS THE sha256 OF THE DUMP (.gsa) THAT YtjlbcofopapajaaDoorProg.lean LOADS. Nothing in Lean hashes anything: it is a label: what it is worth is what the hold of that sum in a sandbox is worth. -/
noncomputable def Tryd.pinned : Pinned := { name := "ytjlbcofopapajaadoor", sum := "3c9dea84ae1f22937ddecbae662e59e431bed47236947ab473f5e12696b3db54", checked := Tryd.checked }
namespace Rows
def none {H : Type} : Left H := { results := [], args := [] }

/- WHAT THE LISTED PACKAGE-LEVEL VARIABLES READ AS WHEN THE CALL BEGINS. Each datum BY PROGRAM (the guide's laid-datum.mjs) off the statement by which the dump's own 'gosem.cut.vars' lays the variable. In a bare row this is a premise. The card (YtjlbcofopapajaaDoorCards.lean) ties it to the program's text. -/
def laid_math_bits_deBruijn32tab {H : Type} : DataW H := .agg [.lit (.int .u8 0), .lit (.int .u8 1), .lit (.int .u8 28), .lit (.int .u8 2), .lit (.int .u8 29), .lit (.int .u8 14), .lit (.int .u8 24), .lit (.int .u8 3), .lit (.int .u8 30), .lit (.int .u8 22), .lit (.int .u8 20), .lit (.int .u8 15), .lit (.int .u8 25), .lit (.int .u8 17), .lit (.int .u8 4), .lit (.int .u8 8), .lit (.int .u8 31), .lit (.int .u8 27), .lit (.int .u8 13), .lit (.int .u8 23), .lit (.int .u8 21), .lit (.int .u8 19), .lit (.int .u8 16), .lit (.int .u8 7), .lit (.int .u8 26), .lit (.int .u8 12), .lit (.int .u8 18), .lit (.int .u8 6), .lit (.int .u8 11), .lit (.int .u8 5), .lit (.int .u8 10), .lit (.int .u8 9)]
def laid_math_bits_deBruijn64tab {H : Type} : DataW H := .agg [.lit (.int .u8 0), .lit (.int .u8 1), .lit (.int .u8 56), .lit (.int .u8 2), .lit (.int .u8 57), .lit (.int .u8 49), .lit (.int .u8 28), .lit (.int .u8 3), .lit (.int .u8 61), .lit (.int .u8 58), .lit (.int .u8 42), .lit (.int .u8 50), .lit (.int .u8 38), .lit (.int .u8 29), .lit (.int .u8 17), .lit (.int .u8 4), .lit (.int .u8 62), .lit (.int .u8 47), .lit (.int .u8 59), .lit (.int .u8 36), .lit (.int .u8 45), .lit (.int .u8 43), .lit (.int .u8 51), .lit (.int .u8 22), .lit (.int .u8 53), .lit (.int .u8 39), .lit (.int .u8 33), .lit (.int .u8 30), .lit (.int .u8 24), .lit (.int .u8 18), .lit (.int .u8 12), .lit (.int .u8 5), .lit (.int .u8 63), .lit (.int .u8 55), .lit (.int .u8 48), .lit (.int .u8 27), .lit (.int .u8 60), .lit (.int .u8 41), .lit (.int .u8 37), .lit (.int .u8 16), .lit (.int .u8 46), .lit (.int .u8 35), .lit (.int .u8 44), .lit (.int .u8 21), .lit (.int .u8 52), .lit (.int .u8 32), .lit (.int .u8 23), .lit (.int .u8 11), .lit (.int .u8 54), .lit (.int .u8 26), .lit (.int .u8 40), .lit (.int .u8 15), .lit (.int .u8 34), .lit (.int .u8 20), .lit (.int .u8 31), .lit (.int .u8 10), .lit (.int .u8 25), .lit (.int .u8 14), .lit (.int .u8 19), .lit (.int .u8 9), .lit (.int .u8 13), .lit (.int .u8 8), .lit (.int .u8 7), .lit (.int .u8 6)]
def laid_internal_strconv_uint64pow10 {H : Type} : DataW H := .agg [.lit (.int .u64 1), .lit (.int .u64 10), .lit (.int .u64 100), .lit (.int .u64 1000), .lit (.int .u64 10000), .lit (.int .u64 100000), .lit (.int .u64 1000000), .lit (.int .u64 10000000), .lit (.int .u64 100000000), .lit (.int .u64 1000000000), .lit (.int .u64 10000000000), .lit (.int .u64 100000000000), .lit (.int .u64 1000000000000), .lit (.int .u64 10000000000000), .lit (.int .u64 100000000000000), .lit (.int .u64 1000000000000000), .lit (.int .u64 10000000000000000), .lit (.int .u64 100000000000000000), .lit (.int .u64 1000000000000000000), .lit (.int .u64 10000000000000000000)]
def laid_loop_example_kilntrace_impl_ops {H : Type} : DataW H := .slice [.agg [.lit (.string []), .lit (.int .u8 0), .lit (.int .i64 0), .lit (.int .i64 0)], .agg [.lit (.string [108, 105, 116]), .lit (.int .u8 116), .lit (.int .i64 0), .lit (.int .i64 1)], .agg [.lit (.string [99, 97, 116]), .lit (.int .u8 0), .lit (.int .i64 2), .lit (.int .i64 1)], .agg [.lit (.string [99, 117, 116]), .lit (.int .u8 110), .lit (.int .i64 1), .lit (.int .i64 1)], .agg [.lit (.string [114, 101, 115, 116]), .lit (.int .u8 110), .lit (.int .i64 1), .lit (.int .i64 1)], .agg [.lit (.string [119, 111, 114, 100]), .lit (.int .u8 110), .lit (.int .i64 1), .lit (.int .i64 1)], .agg [.lit (.string [115, 97, 109, 101]), .lit (.int .u8 0), .lit (.int .i64 2), .lit (.int .i64 1)], .agg [.lit (.string [100, 117, 112]), .lit (.int .u8 0), .lit (.int .i64 1), .lit (.int .i64 2)], .agg [.lit (.string [115, 119, 97, 112]), .lit (.int .u8 0), .lit (.int .i64 2), .lit (.int .i64 2)], .agg [.lit (.string [100, 114, 111, 112]), .lit (.int .u8 0), .lit (.int .i64 1), .lit (.int .i64 0)], .agg [.lit (.string [106, 117, 109, 112]), .lit (.int .u8 106), .lit (.int .i64 0), .lit (.int .i64 0)], .agg [.lit (.string [117, 110, 108, 101, 115, 115]), .lit (.int .u8 106), .lit (.int .i64 1), .lit (.int .i64 0)], .agg [.lit (.string [97, 115, 107]), .lit (.int .u8 0), .lit (.int .i64 1), .lit (.int .i64 1)], .agg [.lit (.string [104, 97, 115]), .lit (.int .u8 0), .lit (.int .i64 1), .lit (.int .i64 1)], .agg [.lit (.string [102, 97, 105, 108]), .lit (.int .u8 0), .lit (.int .i64 1), .lit (.int .i64 0)], .agg [.lit (.string [101, 110, 100]), .lit (.int .u8 0), .lit (.int .i64 1), .lit (.int .i64 0)]] []
def laid_unicode_utf8_acceptRanges {H : Type} : DataW H := .agg [.agg [.lit (.int .u8 128), .lit (.int .u8 191)], .agg [.lit (.int .u8 160), .lit (.int .u8 191)], .agg [.lit (.int .u8 128), .lit (.int .u8 159)], .agg [.lit (.int .u8 144), .lit (.int .u8 191)], .agg [.lit (.int .u8 128), .lit (.int .u8 143)], .agg [.lit (.int .u8 0), .lit (.int .u8 0)], .agg [.lit (.int .u8 0), .lit (.int .u8 0)], .agg [.lit (.int .u8 0), .lit (.int .u8 0)], .agg [.lit (.int .u8 0), .lit (.int .u8 0)], .agg [.lit (.int .u8 0), .lit (.int .u8 0)], .agg [.lit (.int .u8 0), .lit (.int .u8 0)], .agg [.lit (.int .u8 0), .lit (.int .u8 0)], .agg [.lit (.int .u8 0), .lit (.int .u8 0)], .agg [.lit (.int .u8 0), .lit (.int .u8 0)], .agg [.lit (.int .u8 0), .lit (.int .u8 0)], .agg [.lit (.int .u8 0), .lit (.int .u8 0)]]
def laid_strconv_ErrRange {H : Type} : DataW H := .iface "*errors.errorString" (.ptr (.agg [.lit (.string [118, 97, 108, 117, 101, 32, 111, 117, 116, 32, 111, 102, 32, 114, 97, 110, 103, 101])]))
def laid_strconv_ErrSyntax {H : Type} : DataW H := .iface "*errors.errorString" (.ptr (.agg [.lit (.string [105, 110, 118, 97, 108, 105, 100, 32, 115, 121, 110, 116, 97, 120])]))
/-- One of Go's own tables, pinned by name: the form's constant. -/
def laid_unicode_utf8_first : DataW Unit := Go.Pinned.utf8First

/-- 'laws.FnExactPrintProgram': WHATEVER THE INPUT: true; the input reads as it did. -/
def fnExactPrintProgramSpec : ChangeSpec := { name := "fnExactPrintProgram", vars := ["loop.example/kilntrace/impl.ops"], fn := fun _ => fun
  | [d, g1] => { results := [.lit (.bool true)], args := [d], vars := [g1] }
  | _ => none }
def fnExactPrintProgramRow : OpenClaim := { program := "ytjlbcofopapajaadoor", sum := "3c9dea84ae1f22937ddecbae662e59e431bed47236947ab473f5e12696b3db54", func := "loop.example/kilntrace/laws.FnExactPrintProgram", spec := "fnExactPrintProgram", inPlace := ["internal/abi.NoEscape"], recurses := true, named := ["loop.example/kilntrace/impl.ops", "internal/strconv.uint64pow10", "math/bits.deBruijn32tab", "math/bits.deBruijn64tab"], apart := false, laid := [("math/bits.deBruijn32tab", laid_math_bits_deBruijn32tab), ("math/bits.deBruijn64tab", laid_math_bits_deBruijn64tab), ("internal/strconv.uint64pow10", laid_internal_strconv_uint64pow10), ("loop.example/kilntrace/impl.ops", laid_loop_example_kilntrace_impl_ops)] }
def FnExactPrintProgramSaid : Prop := fnExactPrintProgramRow.holds Tryd.pinned (OpenSpec.ofChange fnExactPrintProgramSpec)

/-- ITS FALSE NEIGHBOUR: 'it returns false'. Refute it at one input. -/
def fnExactPrintProgramWrong : ChangeSpec := { name := "fnExactPrintProgram", vars := ["loop.example/kilntrace/impl.ops"], fn := fun _ => fun
  | [d, g1] => { results := [.lit (.bool false)], args := [d], vars := [g1] }
  | _ => none }
def FnExactPrintProgramWrongFalsely : Prop := fnExactPrintProgramRow.holds Tryd.pinned (OpenSpec.ofChange fnExactPrintProgramWrong)

/-- 'laws.FnExactPrintStore': WHATEVER THE INPUT: true; the input reads as it did. -/
def fnExactPrintStoreSpec : ChangeSpec := { name := "fnExactPrintStore", vars := ["loop.example/kilntrace/impl.ops"], fn := fun _ => fun
  | [d, g1] => { results := [.lit (.bool true)], args := [d], vars := [g1] }
  | _ => none }
def fnExactPrintStoreRow : OpenClaim := { program := "ytjlbcofopapajaadoor", sum := "3c9dea84ae1f22937ddecbae662e59e431bed47236947ab473f5e12696b3db54", func := "loop.example/kilntrace/laws.FnExactPrintStore", spec := "fnExactPrintStore", inPlace := ["internal/abi.NoEscape"], recurses := true, named := ["loop.example/kilntrace/impl.ops", "internal/strconv.uint64pow10", "math/bits.deBruijn32tab", "math/bits.deBruijn64tab"], apart := false, laid := [("math/bits.deBruijn32tab", laid_math_bits_deBruijn32tab), ("math/bits.deBruijn64tab", laid_math_bits_deBruijn64tab), ("internal/strconv.uint64pow10", laid_internal_strconv_uint64pow10), ("loop.example/kilntrace/impl.ops", laid_loop_example_kilntrace_impl_ops)] }
def FnExactPrintStoreSaid : Prop := fnExactPrintStoreRow.holds Tryd.pinned (OpenSpec.ofChange fnExactPrintStoreSpec)

/-- ITS FALSE NEIGHBOUR: 'it returns false'. Refute it at one input. -/
def fnExactPrintStoreWrong : ChangeSpec := { name := "fnExactPrintStore", vars := ["loop.example/kilntrace/impl.ops"], fn := fun _ => fun
  | [d, g1] => { results := [.lit (.bool false)], args := [d], vars := [g1] }
  | _ => none }
def FnExactPrintStoreWrongFalsely : Prop := fnExactPrintStoreRow.holds Tryd.pinned (OpenSpec.ofChange fnExactPrintStoreWrong)

/-- 'laws.FnExactPutSource': WHATEVER THE INPUT: true; the input reads as it did. -/
def fnExactPutSourceSpec : ChangeSpec := { name := "fnExactPutSource", vars := ["loop.example/kilntrace/impl.ops"], fn := fun _ => fun
  | [d1, d2, d3, g1] => { results := [.lit (.bool true)], args := [d1, d2, d3], vars := [g1] }
  | _ => none }
def fnExactPutSourceRow : OpenClaim := { program := "ytjlbcofopapajaadoor", sum := "3c9dea84ae1f22937ddecbae662e59e431bed47236947ab473f5e12696b3db54", func := "loop.example/kilntrace/laws.FnExactPutSource", spec := "fnExactPutSource", inPlace := ["internal/reflectlite.ValueOf", "internal/reflectlite.Swapper", "(internal/reflectlite.Value).Len"], unfollowed := true, recurses := true, named := ["loop.example/kilntrace/impl.ops"], apart := false, laid := [("loop.example/kilntrace/impl.ops", laid_loop_example_kilntrace_impl_ops)] }
def FnExactPutSourceSaid : Prop := fnExactPutSourceRow.holds Tryd.pinned (OpenSpec.ofChange fnExactPutSourceSpec)

/-- ITS FALSE NEIGHBOUR: 'it returns false'. Refute it at one input. -/
def fnExactPutSourceWrong : ChangeSpec := { name := "fnExactPutSource", vars := ["loop.example/kilntrace/impl.ops"], fn := fun _ => fun
  | [d1, d2, d3, g1] => { results := [.lit (.bool false)], args := [d1, d2, d3], vars := [g1] }
  | _ => none }
def FnExactPutSourceWrongFalsely : Prop := fnExactPutSourceRow.holds Tryd.pinned (OpenSpec.ofChange fnExactPutSourceWrong)

/-- 'laws.FnExactPutTarget': WHATEVER THE INPUT: true; the input reads as it did. -/
def fnExactPutTargetSpec : ChangeSpec := { name := "fnExactPutTarget", vars := ["loop.example/kilntrace/impl.ops"], fn := fun _ => fun
  | [d1, d2, d3, g1] => { results := [.lit (.bool true)], args := [d1, d2, d3], vars := [g1] }
  | _ => none }
def fnExactPutTargetRow : OpenClaim := { program := "ytjlbcofopapajaadoor", sum := "3c9dea84ae1f22937ddecbae662e59e431bed47236947ab473f5e12696b3db54", func := "loop.example/kilntrace/laws.FnExactPutTarget", spec := "fnExactPutTarget", inPlace := ["internal/reflectlite.ValueOf", "internal/reflectlite.Swapper", "(internal/reflectlite.Value).Len"], unfollowed := true, recurses := true, named := ["loop.example/kilntrace/impl.ops"], apart := false, laid := [("loop.example/kilntrace/impl.ops", laid_loop_example_kilntrace_impl_ops)] }
def FnExactPutTargetSaid : Prop := fnExactPutTargetRow.holds Tryd.pinned (OpenSpec.ofChange fnExactPutTargetSpec)

/-- ITS FALSE NEIGHBOUR: 'it returns false'. Refute it at one input. -/
def fnExactPutTargetWrong : ChangeSpec := { name := "fnExactPutTarget", vars := ["loop.example/kilntrace/impl.ops"], fn := fun _ => fun
  | [d1, d2, d3, g1] => { results := [.lit (.bool false)], args := [d1, d2, d3], vars := [g1] }
  | _ => none }
def FnExactPutTargetWrongFalsely : Prop := fnExactPutTargetRow.holds Tryd.pinned (OpenSpec.ofChange fnExactPutTargetWrong)

/-- 'laws.FnExactParseProgram': WHATEVER THE INPUT: true; the input reads as it did. -/
def fnExactParseProgramSpec : ChangeSpec := { name := "fnExactParseProgram", vars := ["loop.example/kilntrace/impl.ops"], fn := fun _ => fun
  | [d, g1] => { results := [.lit (.bool true)], args := [d], vars := [g1] }
  | _ => none }
def fnExactParseProgramRow : OpenClaim := { program := "ytjlbcofopapajaadoor", sum := "3c9dea84ae1f22937ddecbae662e59e431bed47236947ab473f5e12696b3db54", func := "loop.example/kilntrace/laws.FnExactParseProgram", spec := "fnExactParseProgram", inPlace := ["internal/bytealg.CountString", "internal/bytealg.IndexByteString", "internal/bytealg.IndexString"], recurses := true, named := ["unicode/utf8.first", "unicode/utf8.acceptRanges", "internal/bytealg.MaxLen", "loop.example/kilntrace/impl.ops", "strconv.ErrSyntax", "strconv.ErrRange", "internal/strconv.uint64pow10", "math/bits.deBruijn32tab", "math/bits.deBruijn64tab"], apart := false, laid := [("math/bits.deBruijn32tab", laid_math_bits_deBruijn32tab), ("math/bits.deBruijn64tab", laid_math_bits_deBruijn64tab), ("internal/strconv.uint64pow10", laid_internal_strconv_uint64pow10), ("unicode/utf8.acceptRanges", laid_unicode_utf8_acceptRanges), ("strconv.ErrRange", laid_strconv_ErrRange), ("strconv.ErrSyntax", laid_strconv_ErrSyntax), ("loop.example/kilntrace/impl.ops", laid_loop_example_kilntrace_impl_ops), ("unicode/utf8.first", laid_unicode_utf8_first)] }
def FnExactParseProgramSaid : Prop := fnExactParseProgramRow.holds Tryd.pinned (OpenSpec.ofChange fnExactParseProgramSpec)

/-- ITS FALSE NEIGHBOUR: 'it returns false'. Refute it at one input. -/
def fnExactParseProgramWrong : ChangeSpec := { name := "fnExactParseProgram", vars := ["loop.example/kilntrace/impl.ops"], fn := fun _ => fun
  | [d, g1] => { results := [.lit (.bool false)], args := [d], vars := [g1] }
  | _ => none }
def FnExactParseProgramWrongFalsely : Prop := fnExactParseProgramRow.holds Tryd.pinned (OpenSpec.ofChange fnExactParseProgramWrong)

/-- 'laws.FnProgram': WHATEVER THE INPUT: true; the input reads as it did. -/
def fnProgramSpec : ChangeSpec := { name := "fnProgram", vars := ["loop.example/kilntrace/impl.ops"], fn := fun _ => fun
  | [d, g1] => { results := [.lit (.bool true)], args := [d], vars := [g1] }
  | _ => none }
def fnProgramRow : OpenClaim := { program := "ytjlbcofopapajaadoor", sum := "3c9dea84ae1f22937ddecbae662e59e431bed47236947ab473f5e12696b3db54", func := "loop.example/kilntrace/laws.FnProgram", spec := "fnProgram", inPlace := ["internal/abi.NoEscape", "internal/bytealg.CountString", "internal/bytealg.IndexByteString", "internal/bytealg.IndexString"], recurses := true, named := ["loop.example/kilntrace/impl.ops", "internal/strconv.uint64pow10", "math/bits.deBruijn32tab", "math/bits.deBruijn64tab", "unicode/utf8.first", "unicode/utf8.acceptRanges", "internal/bytealg.MaxLen", "strconv.ErrSyntax", "strconv.ErrRange"], apart := false, laid := [("math/bits.deBruijn32tab", laid_math_bits_deBruijn32tab), ("math/bits.deBruijn64tab", laid_math_bits_deBruijn64tab), ("internal/strconv.uint64pow10", laid_internal_strconv_uint64pow10), ("unicode/utf8.acceptRanges", laid_unicode_utf8_acceptRanges), ("strconv.ErrRange", laid_strconv_ErrRange), ("strconv.ErrSyntax", laid_strconv_ErrSyntax), ("loop.example/kilntrace/impl.ops", laid_loop_example_kilntrace_impl_ops), ("unicode/utf8.first", laid_unicode_utf8_first)] }
def FnProgramSaid : Prop := fnProgramRow.holds Tryd.pinned (OpenSpec.ofChange fnProgramSpec)

/-- ITS FALSE NEIGHBOUR: 'it returns false'. Refute it at one input. -/
def fnProgramWrong : ChangeSpec := { name := "fnProgram", vars := ["loop.example/kilntrace/impl.ops"], fn := fun _ => fun
  | [d, g1] => { results := [.lit (.bool false)], args := [d], vars := [g1] }
  | _ => none }
def FnProgramWrongFalsely : Prop := fnProgramRow.holds Tryd.pinned (OpenSpec.ofChange fnProgramWrong)

/-- 'laws.FnTrail': WHATEVER THE INPUT: true; the input reads as it did. -/
def fnTrailSpec : ChangeSpec := { name := "fnTrail", vars := ["loop.example/kilntrace/impl.ops"], fn := fun _ => fun
  | [d, g1] => { results := [.lit (.bool true)], args := [d], vars := [g1] }
  | _ => none }
def fnTrailRow : OpenClaim := { program := "ytjlbcofopapajaadoor", sum := "3c9dea84ae1f22937ddecbae662e59e431bed47236947ab473f5e12696b3db54", func := "loop.example/kilntrace/laws.FnTrail", spec := "fnTrail", unfollowed := true, recurses := true, named := ["loop.example/kilntrace/impl.ops", "internal/strconv.uint64pow10", "math/bits.deBruijn32tab", "math/bits.deBruijn64tab"], apart := false, laid := [("math/bits.deBruijn32tab", laid_math_bits_deBruijn32tab), ("math/bits.deBruijn64tab", laid_math_bits_deBruijn64tab), ("internal/strconv.uint64pow10", laid_internal_strconv_uint64pow10), ("loop.example/kilntrace/impl.ops", laid_loop_example_kilntrace_impl_ops)] }
def FnTrailSaid : Prop := fnTrailRow.holds Tryd.pinned (OpenSpec.ofChange fnTrailSpec)

/-- ITS FALSE NEIGHBOUR: 'it returns false'. Refute it at one input. -/
def fnTrailWrong : ChangeSpec := { name := "fnTrail", vars := ["loop.example/kilntrace/impl.ops"], fn := fun _ => fun
  | [d, g1] => { results := [.lit (.bool false)], args := [d], vars := [g1] }
  | _ => none }
def FnTrailWrongFalsely : Prop := fnTrailRow.holds Tryd.pinned (OpenSpec.ofChange fnTrailWrong)

/-- 'laws.FnReplay': WHATEVER THE INPUT: true; the input reads as it did. -/
def fnReplaySpec : ChangeSpec := { name := "fnReplay", vars := ["loop.example/kilntrace/impl.ops"], fn := fun _ => fun
  | [d, g1] => { results := [.lit (.bool true)], args := [d], vars := [g1] }
  | _ => none }
def fnReplayRow : OpenClaim := { program := "ytjlbcofopapajaadoor", sum := "3c9dea84ae1f22937ddecbae662e59e431bed47236947ab473f5e12696b3db54", func := "loop.example/kilntrace/laws.FnReplay", spec := "fnReplay", unfollowed := true, recurses := true, named := ["loop.example/kilntrace/impl.ops", "internal/strconv.uint64pow10", "math/bits.deBruijn32tab", "math/bits.deBruijn64tab"], apart := false, laid := [("math/bits.deBruijn32tab", laid_math_bits_deBruijn32tab), ("math/bits.deBruijn64tab", laid_math_bits_deBruijn64tab), ("internal/strconv.uint64pow10", laid_internal_strconv_uint64pow10), ("loop.example/kilntrace/impl.ops", laid_loop_example_kilntrace_impl_ops)] }
def FnReplaySaid : Prop := fnReplayRow.holds Tryd.pinned (OpenSpec.ofChange fnReplaySpec)

/-- ITS FALSE NEIGHBOUR: 'it returns false'. Refute it at one input. -/
def fnReplayWrong : ChangeSpec := { name := "fnReplay", vars := ["loop.example/kilntrace/impl.ops"], fn := fun _ => fun
  | [d, g1] => { results := [.lit (.bool false)], args := [d], vars := [g1] }
  | _ => none }
def FnReplayWrongFalsely : Prop := fnReplayRow.holds Tryd.pinned (OpenSpec.ofChange fnReplayWrong)

/- THE SECOND FORM. 'bulk': how many values and letters a reading holds, each counted each time it is reached (what is shared counts as often as it is met; a slice's spare places count too). A statement '..UptoSaid' is the law's where the arguments, and the package variables that the reading takes, are together of bulk at most 1048576: NARROWER than '..Said'. Prove '..Said' where nothing that the law and all that it calls make is longer than what came in: it says more and counts as full. Else prove '..UptoSaid'. A law counts once. -/
mutual
def uptoBulk {H : Type} : DataW H → Nat
  | .lit (.string bytes) => bytes.length + 1
  | .lit _ => 1
  | .nil => 1
  | .ptr d => uptoBulk d + 1
  | .slice elems spare => uptoBulkAll elems + uptoBulkAll spare + 1
  | .agg parts => uptoBulkAll parts + 1
  | .iface _ d => uptoBulk d + 1
  | .map entries => uptoBulkEntries entries + 1
  | .held _ => 1
def uptoBulkAll {H : Type} : List (DataW H) → Nat
  | [] => 0
  | d :: r => uptoBulk d + uptoBulkAll r
def uptoBulkEntries {H : Type} : List (Lit × DataW H) → Nat
  | [] => 0
  | x :: r => uptoBulkEntry x + uptoBulkEntries r
def uptoBulkEntry {H : Type} : Lit × DataW H → Nat
  | (.string bytes, d) => bytes.length + uptoBulk d + 1
  | (_, d) => uptoBulk d + 1
 end
def uptoSmall : (H : Type) → List (DataW H) → Bool := fun _ ds => decide (uptoBulkAll ds ≤ 1048576)
def OpenSpec.upto (s : _root_.Go.ChangeSpec) : _root_.Go.OpenSpec := { _root_.Go.OpenSpec.ofChange s with cond := some uptoSmall }

/-- 'laws.FnExactPrintProgram', WHERE WHAT IT READS IS OF BULK AT MOST 1048576: true; the input reads as it did. -/
def fnExactPrintProgramUptoRow : OpenClaim := { program := "ytjlbcofopapajaadoor", sum := "3c9dea84ae1f22937ddecbae662e59e431bed47236947ab473f5e12696b3db54", func := "loop.example/kilntrace/laws.FnExactPrintProgram", spec := "fnExactPrintProgram", inPlace := ["internal/abi.NoEscape"], recurses := true, named := ["loop.example/kilntrace/impl.ops", "internal/strconv.uint64pow10", "math/bits.deBruijn32tab", "math/bits.deBruijn64tab"], apart := false, laid := [("math/bits.deBruijn32tab", laid_math_bits_deBruijn32tab), ("math/bits.deBruijn64tab", laid_math_bits_deBruijn64tab), ("internal/strconv.uint64pow10", laid_internal_strconv_uint64pow10), ("loop.example/kilntrace/impl.ops", laid_loop_example_kilntrace_impl_ops)], narrowed := true }
def FnExactPrintProgramUptoSaid : Prop := fnExactPrintProgramUptoRow.holds Tryd.pinned (OpenSpec.upto fnExactPrintProgramSpec)

/-- 'laws.FnExactPrintStore', WHERE WHAT IT READS IS OF BULK AT MOST 1048576: true; the input reads as it did. -/
def fnExactPrintStoreUptoRow : OpenClaim := { program := "ytjlbcofopapajaadoor", sum := "3c9dea84ae1f22937ddecbae662e59e431bed47236947ab473f5e12696b3db54", func := "loop.example/kilntrace/laws.FnExactPrintStore", spec := "fnExactPrintStore", inPlace := ["internal/abi.NoEscape"], recurses := true, named := ["loop.example/kilntrace/impl.ops", "internal/strconv.uint64pow10", "math/bits.deBruijn32tab", "math/bits.deBruijn64tab"], apart := false, laid := [("math/bits.deBruijn32tab", laid_math_bits_deBruijn32tab), ("math/bits.deBruijn64tab", laid_math_bits_deBruijn64tab), ("internal/strconv.uint64pow10", laid_internal_strconv_uint64pow10), ("loop.example/kilntrace/impl.ops", laid_loop_example_kilntrace_impl_ops)], narrowed := true }
def FnExactPrintStoreUptoSaid : Prop := fnExactPrintStoreUptoRow.holds Tryd.pinned (OpenSpec.upto fnExactPrintStoreSpec)

/-- 'laws.FnExactPutSource', WHERE WHAT IT READS IS OF BULK AT MOST 1048576: true; the input reads as it did. -/
def fnExactPutSourceUptoRow : OpenClaim := { program := "ytjlbcofopapajaadoor", sum := "3c9dea84ae1f22937ddecbae662e59e431bed47236947ab473f5e12696b3db54", func := "loop.example/kilntrace/laws.FnExactPutSource", spec := "fnExactPutSource", inPlace := ["internal/reflectlite.ValueOf", "internal/reflectlite.Swapper", "(internal/reflectlite.Value).Len"], unfollowed := true, recurses := true, named := ["loop.example/kilntrace/impl.ops"], apart := false, laid := [("loop.example/kilntrace/impl.ops", laid_loop_example_kilntrace_impl_ops)], narrowed := true }
def FnExactPutSourceUptoSaid : Prop := fnExactPutSourceUptoRow.holds Tryd.pinned (OpenSpec.upto fnExactPutSourceSpec)

/-- 'laws.FnExactPutTarget', WHERE WHAT IT READS IS OF BULK AT MOST 1048576: true; the input reads as it did. -/
def fnExactPutTargetUptoRow : OpenClaim := { program := "ytjlbcofopapajaadoor", sum := "3c9dea84ae1f22937ddecbae662e59e431bed47236947ab473f5e12696b3db54", func := "loop.example/kilntrace/laws.FnExactPutTarget", spec := "fnExactPutTarget", inPlace := ["internal/reflectlite.ValueOf", "internal/reflectlite.Swapper", "(internal/reflectlite.Value).Len"], unfollowed := true, recurses := true, named := ["loop.example/kilntrace/impl.ops"], apart := false, laid := [("loop.example/kilntrace/impl.ops", laid_loop_example_kilntrace_impl_ops)], narrowed := true }
def FnExactPutTargetUptoSaid : Prop := fnExactPutTargetUptoRow.holds Tryd.pinned (OpenSpec.upto fnExactPutTargetSpec)

/-- 'laws.FnExactParseProgram', WHERE WHAT IT READS IS OF BULK AT MOST 1048576: true; the input reads as it did. -/
def fnExactParseProgramUptoRow : OpenClaim := { program := "ytjlbcofopapajaadoor", sum := "3c9dea84ae1f22937ddecbae662e59e431bed47236947ab473f5e12696b3db54", func := "loop.example/kilntrace/laws.FnExactParseProgram", spec := "fnExactParseProgram", inPlace := ["internal/bytealg.CountString", "internal/bytealg.IndexByteString", "internal/bytealg.IndexString"], recurses := true, named := ["unicode/utf8.first", "unicode/utf8.acceptRanges", "internal/bytealg.MaxLen", "loop.example/kilntrace/impl.ops", "strconv.ErrSyntax", "strconv.ErrRange", "internal/strconv.uint64pow10", "math/bits.deBruijn32tab", "math/bits.deBruijn64tab"], apart := false, laid := [("math/bits.deBruijn32tab", laid_math_bits_deBruijn32tab), ("math/bits.deBruijn64tab", laid_math_bits_deBruijn64tab), ("internal/strconv.uint64pow10", laid_internal_strconv_uint64pow10), ("unicode/utf8.acceptRanges", laid_unicode_utf8_acceptRanges), ("strconv.ErrRange", laid_strconv_ErrRange), ("strconv.ErrSyntax", laid_strconv_ErrSyntax), ("loop.example/kilntrace/impl.ops", laid_loop_example_kilntrace_impl_ops), ("unicode/utf8.first", laid_unicode_utf8_first)], narrowed := true }
def FnExactParseProgramUptoSaid : Prop := fnExactParseProgramUptoRow.holds Tryd.pinned (OpenSpec.upto fnExactParseProgramSpec)

/-- 'laws.FnProgram', WHERE WHAT IT READS IS OF BULK AT MOST 1048576: true; the input reads as it did. -/
def fnProgramUptoRow : OpenClaim := { program := "ytjlbcofopapajaadoor", sum := "3c9dea84ae1f22937ddecbae662e59e431bed47236947ab473f5e12696b3db54", func := "loop.example/kilntrace/laws.FnProgram", spec := "fnProgram", inPlace := ["internal/abi.NoEscape", "internal/bytealg.CountString", "internal/bytealg.IndexByteString", "internal/bytealg.IndexString"], recurses := true, named := ["loop.example/kilntrace/impl.ops", "internal/strconv.uint64pow10", "math/bits.deBruijn32tab", "math/bits.deBruijn64tab", "unicode/utf8.first", "unicode/utf8.acceptRanges", "internal/bytealg.MaxLen", "strconv.ErrSyntax", "strconv.ErrRange"], apart := false, laid := [("math/bits.deBruijn32tab", laid_math_bits_deBruijn32tab), ("math/bits.deBruijn64tab", laid_math_bits_deBruijn64tab), ("internal/strconv.uint64pow10", laid_internal_strconv_uint64pow10), ("unicode/utf8.acceptRanges", laid_unicode_utf8_acceptRanges), ("strconv.ErrRange", laid_strconv_ErrRange), ("strconv.ErrSyntax", laid_strconv_ErrSyntax), ("loop.example/kilntrace/impl.ops", laid_loop_example_kilntrace_impl_ops), ("unicode/utf8.first", laid_unicode_utf8_first)], narrowed := true }
def FnProgramUptoSaid : Prop := fnProgramUptoRow.holds Tryd.pinned (OpenSpec.upto fnProgramSpec)

/-- 'laws.FnTrail', WHERE WHAT IT READS IS OF BULK AT MOST 1048576: true; the input reads as it did. -/
def fnTrailUptoRow : OpenClaim := { program := "ytjlbcofopapajaadoor", sum := "3c9dea84ae1f22937ddecbae662e59e431bed47236947ab473f5e12696b3db54", func := "loop.example/kilntrace/laws.FnTrail", spec := "fnTrail", unfollowed := true, recurses := true, named := ["loop.example/kilntrace/impl.ops", "internal/strconv.uint64pow10", "math/bits.deBruijn32tab", "math/bits.deBruijn64tab"], apart := false, laid := [("math/bits.deBruijn32tab", laid_math_bits_deBruijn32tab), ("math/bits.deBruijn64tab", laid_math_bits_deBruijn64tab), ("internal/strconv.uint64pow10", laid_internal_strconv_uint64pow10), ("loop.example/kilntrace/impl.ops", laid_loop_example_kilntrace_impl_ops)], narrowed := true }
def FnTrailUptoSaid : Prop := fnTrailUptoRow.holds Tryd.pinned (OpenSpec.upto fnTrailSpec)

/-- 'laws.FnReplay', WHERE WHAT IT READS IS OF BULK AT MOST 1048576: true; the input reads as it did. -/
def fnReplayUptoRow : OpenClaim := { program := "ytjlbcofopapajaadoor", sum := "3c9dea84ae1f22937ddecbae662e59e431bed47236947ab473f5e12696b3db54", func := "loop.example/kilntrace/laws.FnReplay", spec := "fnReplay", unfollowed := true, recurses := true, named := ["loop.example/kilntrace/impl.ops", "internal/strconv.uint64pow10", "math/bits.deBruijn32tab", "math/bits.deBruijn64tab"], apart := false, laid := [("math/bits.deBruijn32tab", laid_math_bits_deBruijn32tab), ("math/bits.deBruijn64tab", laid_math_bits_deBruijn64tab), ("internal/strconv.uint64pow10", laid_internal_strconv_uint64pow10), ("loop.example/kilntrace/impl.ops", laid_loop_example_kilntrace_impl_ops)], narrowed := true }
def FnReplayUptoSaid : Prop := fnReplayUptoRow.holds Tryd.pinned (OpenSpec.upto fnReplaySpec)

end Rows
end Go.Proofs.YtjlbcofopapajaaDoor
