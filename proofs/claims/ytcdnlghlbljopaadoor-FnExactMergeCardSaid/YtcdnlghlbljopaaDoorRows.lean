/-
  NARROWER THAN 'FOR EVERY INPUT', by the rows' own cells (each row's printed sentence says how): FnExactValidProgram: laid · FnExactCheckSpace: laid · FnExactPrintProgram: laid · FnExactValidStore: laid · FnExactGetText: laid · FnExactNote: laid · FnExactDrop: laid · FnExactPutText: laid · FnExactNext: laid · FnExactMerge: laid · FnExactPrintStore: laid.
  DERIVED. THE GIVEN ROWS OF THIS SEAT. 11 by the template 'for every input the law returns true; each argument reads behind the call as it read before'; 0 by the template 'total and deterministic' (their statements: YtcdnlghlbljopaaDoorTotals.lean).
  GIVEN WITH THE SEED: the statements are not yours to turn. If you find one false, say at which input.
  Laid BY PROGRAM, IN A SANDBOX (cutbox-rows.mjs): the forced cells as the released guide's own fill.sh prints them over the translation c9857c351ea8151f… (all of the seat's roots in one cut). By AI agents, Wed Nov 11 2026. No macro, syntax, notation, axiom, sorry.
-/
import Derived.Test.YtcdnlghlbljopaaDoorChecked
import GoSem.Claim
import GoSem.ClaimJoined
import GoSem.ClaimMapViews
import Derived.JoinedTies
import Derived.KernelRfl
namespace Go.Proofs.YtcdnlghlbljopaaDoor
/- THE CELL 'sum', in the pinned program and in every row, IS THE sha256 OF THE DUMP (.gsa) THAT YtcdnlghlbljopaaDoorProg.lean LOADS. Nothing in Lean hashes anything: it is a label: what it is worth is what the hold of that sum in a sandbox is worth. -/
noncomputable def Tryd.pinned : Pinned := { name := "ytcdnlghlbljopaadoor", sum := "c9857c351ea8151fd68fe9d94d0198c779837b2e495eccecb2a6b9088f9a35ca", checked := Tryd.checked }
namespace Rows
def none {H : Type} : Left H := { results := [], args := [] }

/- WHAT THE LISTED PACKAGE-LEVEL VARIABLES READ AS WHEN THE CALL BEGINS. Each datum BY PROGRAM (the guide's laid-datum.mjs) off the statement by which the dump's own 'gosem.cut.vars' lays the variable. In a bare row this is a premise. The card (YtcdnlghlbljopaaDoorCards.lean) ties it to the program's text. -/
def laid_loop_example_kilntrace_impl_ops {H : Type} : DataW H := .slice [.agg [.lit (.string []), .lit (.int .u8 0), .lit (.int .i64 0), .lit (.int .i64 0)], .agg [.lit (.string [108, 105, 116]), .lit (.int .u8 116), .lit (.int .i64 0), .lit (.int .i64 1)], .agg [.lit (.string [99, 97, 116]), .lit (.int .u8 0), .lit (.int .i64 2), .lit (.int .i64 1)], .agg [.lit (.string [99, 117, 116]), .lit (.int .u8 110), .lit (.int .i64 1), .lit (.int .i64 1)], .agg [.lit (.string [114, 101, 115, 116]), .lit (.int .u8 110), .lit (.int .i64 1), .lit (.int .i64 1)], .agg [.lit (.string [119, 111, 114, 100]), .lit (.int .u8 110), .lit (.int .i64 1), .lit (.int .i64 1)], .agg [.lit (.string [115, 97, 109, 101]), .lit (.int .u8 0), .lit (.int .i64 2), .lit (.int .i64 1)], .agg [.lit (.string [100, 117, 112]), .lit (.int .u8 0), .lit (.int .i64 1), .lit (.int .i64 2)], .agg [.lit (.string [115, 119, 97, 112]), .lit (.int .u8 0), .lit (.int .i64 2), .lit (.int .i64 2)], .agg [.lit (.string [100, 114, 111, 112]), .lit (.int .u8 0), .lit (.int .i64 1), .lit (.int .i64 0)], .agg [.lit (.string [106, 117, 109, 112]), .lit (.int .u8 106), .lit (.int .i64 0), .lit (.int .i64 0)], .agg [.lit (.string [117, 110, 108, 101, 115, 115]), .lit (.int .u8 106), .lit (.int .i64 1), .lit (.int .i64 0)], .agg [.lit (.string [97, 115, 107]), .lit (.int .u8 0), .lit (.int .i64 1), .lit (.int .i64 1)], .agg [.lit (.string [104, 97, 115]), .lit (.int .u8 0), .lit (.int .i64 1), .lit (.int .i64 1)], .agg [.lit (.string [102, 97, 105, 108]), .lit (.int .u8 0), .lit (.int .i64 1), .lit (.int .i64 0)], .agg [.lit (.string [101, 110, 100]), .lit (.int .u8 0), .lit (.int .i64 1), .lit (.int .i64 0)]] []
def laid_math_bits_deBruijn32tab {H : Type} : DataW H := .agg [.lit (.int .u8 0), .lit (.int .u8 1), .lit (.int .u8 28), .lit (.int .u8 2), .lit (.int .u8 29), .lit (.int .u8 14), .lit (.int .u8 24), .lit (.int .u8 3), .lit (.int .u8 30), .lit (.int .u8 22), .lit (.int .u8 20), .lit (.int .u8 15), .lit (.int .u8 25), .lit (.int .u8 17), .lit (.int .u8 4), .lit (.int .u8 8), .lit (.int .u8 31), .lit (.int .u8 27), .lit (.int .u8 13), .lit (.int .u8 23), .lit (.int .u8 21), .lit (.int .u8 19), .lit (.int .u8 16), .lit (.int .u8 7), .lit (.int .u8 26), .lit (.int .u8 12), .lit (.int .u8 18), .lit (.int .u8 6), .lit (.int .u8 11), .lit (.int .u8 5), .lit (.int .u8 10), .lit (.int .u8 9)]
def laid_math_bits_deBruijn64tab {H : Type} : DataW H := .agg [.lit (.int .u8 0), .lit (.int .u8 1), .lit (.int .u8 56), .lit (.int .u8 2), .lit (.int .u8 57), .lit (.int .u8 49), .lit (.int .u8 28), .lit (.int .u8 3), .lit (.int .u8 61), .lit (.int .u8 58), .lit (.int .u8 42), .lit (.int .u8 50), .lit (.int .u8 38), .lit (.int .u8 29), .lit (.int .u8 17), .lit (.int .u8 4), .lit (.int .u8 62), .lit (.int .u8 47), .lit (.int .u8 59), .lit (.int .u8 36), .lit (.int .u8 45), .lit (.int .u8 43), .lit (.int .u8 51), .lit (.int .u8 22), .lit (.int .u8 53), .lit (.int .u8 39), .lit (.int .u8 33), .lit (.int .u8 30), .lit (.int .u8 24), .lit (.int .u8 18), .lit (.int .u8 12), .lit (.int .u8 5), .lit (.int .u8 63), .lit (.int .u8 55), .lit (.int .u8 48), .lit (.int .u8 27), .lit (.int .u8 60), .lit (.int .u8 41), .lit (.int .u8 37), .lit (.int .u8 16), .lit (.int .u8 46), .lit (.int .u8 35), .lit (.int .u8 44), .lit (.int .u8 21), .lit (.int .u8 52), .lit (.int .u8 32), .lit (.int .u8 23), .lit (.int .u8 11), .lit (.int .u8 54), .lit (.int .u8 26), .lit (.int .u8 40), .lit (.int .u8 15), .lit (.int .u8 34), .lit (.int .u8 20), .lit (.int .u8 31), .lit (.int .u8 10), .lit (.int .u8 25), .lit (.int .u8 14), .lit (.int .u8 19), .lit (.int .u8 9), .lit (.int .u8 13), .lit (.int .u8 8), .lit (.int .u8 7), .lit (.int .u8 6)]
def laid_internal_strconv_uint64pow10 {H : Type} : DataW H := .agg [.lit (.int .u64 1), .lit (.int .u64 10), .lit (.int .u64 100), .lit (.int .u64 1000), .lit (.int .u64 10000), .lit (.int .u64 100000), .lit (.int .u64 1000000), .lit (.int .u64 10000000), .lit (.int .u64 100000000), .lit (.int .u64 1000000000), .lit (.int .u64 10000000000), .lit (.int .u64 100000000000), .lit (.int .u64 1000000000000), .lit (.int .u64 10000000000000), .lit (.int .u64 100000000000000), .lit (.int .u64 1000000000000000), .lit (.int .u64 10000000000000000), .lit (.int .u64 100000000000000000), .lit (.int .u64 1000000000000000000), .lit (.int .u64 10000000000000000000)]

/-- 'laws.FnExactValidProgram': WHATEVER THE INPUT: true; the input reads as it did. -/
def fnExactValidProgramSpec : ChangeSpec := { name := "fnExactValidProgram", vars := ["loop.example/kilntrace/impl.ops"], fn := fun _ => fun
  | [d, g1] => { results := [.lit (.bool true)], args := [d], vars := [g1] }
  | _ => none }
def fnExactValidProgramRow : OpenClaim := { program := "ytcdnlghlbljopaadoor", sum := "c9857c351ea8151fd68fe9d94d0198c779837b2e495eccecb2a6b9088f9a35ca", func := "loop.example/kilntrace/laws.FnExactValidProgram", spec := "fnExactValidProgram", named := ["loop.example/kilntrace/impl.ops"], apart := false, laid := [("loop.example/kilntrace/impl.ops", laid_loop_example_kilntrace_impl_ops)] }
def FnExactValidProgramSaid : Prop := fnExactValidProgramRow.holds Tryd.pinned (OpenSpec.ofChange fnExactValidProgramSpec)

/-- ITS FALSE NEIGHBOUR: 'it returns false'. Refute it at one input. -/
def fnExactValidProgramWrong : ChangeSpec := { name := "fnExactValidProgram", vars := ["loop.example/kilntrace/impl.ops"], fn := fun _ => fun
  | [d, g1] => { results := [.lit (.bool false)], args := [d], vars := [g1] }
  | _ => none }
def FnExactValidProgramWrongFalsely : Prop := fnExactValidProgramRow.holds Tryd.pinned (OpenSpec.ofChange fnExactValidProgramWrong)

/-- 'laws.FnExactCheckSpace': WHATEVER THE INPUT: true; the input reads as it did. -/
def fnExactCheckSpaceSpec : ChangeSpec := { name := "fnExactCheckSpace", vars := ["loop.example/kilntrace/impl.ops"], fn := fun _ => fun
  | [d, g1] => { results := [.lit (.bool true)], args := [d], vars := [g1] }
  | _ => none }
def fnExactCheckSpaceRow : OpenClaim := { program := "ytcdnlghlbljopaadoor", sum := "c9857c351ea8151fd68fe9d94d0198c779837b2e495eccecb2a6b9088f9a35ca", func := "loop.example/kilntrace/laws.FnExactCheckSpace", spec := "fnExactCheckSpace", named := ["loop.example/kilntrace/impl.ops"], apart := false, laid := [("loop.example/kilntrace/impl.ops", laid_loop_example_kilntrace_impl_ops)] }
def FnExactCheckSpaceSaid : Prop := fnExactCheckSpaceRow.holds Tryd.pinned (OpenSpec.ofChange fnExactCheckSpaceSpec)

/-- ITS FALSE NEIGHBOUR: 'it returns false'. Refute it at one input. -/
def fnExactCheckSpaceWrong : ChangeSpec := { name := "fnExactCheckSpace", vars := ["loop.example/kilntrace/impl.ops"], fn := fun _ => fun
  | [d, g1] => { results := [.lit (.bool false)], args := [d], vars := [g1] }
  | _ => none }
def FnExactCheckSpaceWrongFalsely : Prop := fnExactCheckSpaceRow.holds Tryd.pinned (OpenSpec.ofChange fnExactCheckSpaceWrong)

/-- 'laws.FnExactPrintProgram': WHATEVER THE INPUT: true; the input reads as it did. -/
def fnExactPrintProgramSpec : ChangeSpec := { name := "fnExactPrintProgram", vars := ["loop.example/kilntrace/impl.ops"], fn := fun _ => fun
  | [d, g1] => { results := [.lit (.bool true)], args := [d], vars := [g1] }
  | _ => none }
def fnExactPrintProgramRow : OpenClaim := { program := "ytcdnlghlbljopaadoor", sum := "c9857c351ea8151fd68fe9d94d0198c779837b2e495eccecb2a6b9088f9a35ca", func := "loop.example/kilntrace/laws.FnExactPrintProgram", spec := "fnExactPrintProgram", inPlace := ["internal/abi.NoEscape"], recurses := true, named := ["loop.example/kilntrace/impl.ops", "internal/strconv.uint64pow10", "math/bits.deBruijn32tab", "math/bits.deBruijn64tab"], apart := false, laid := [("math/bits.deBruijn32tab", laid_math_bits_deBruijn32tab), ("math/bits.deBruijn64tab", laid_math_bits_deBruijn64tab), ("internal/strconv.uint64pow10", laid_internal_strconv_uint64pow10), ("loop.example/kilntrace/impl.ops", laid_loop_example_kilntrace_impl_ops)] }
def FnExactPrintProgramSaid : Prop := fnExactPrintProgramRow.holds Tryd.pinned (OpenSpec.ofChange fnExactPrintProgramSpec)

/-- ITS FALSE NEIGHBOUR: 'it returns false'. Refute it at one input. -/
def fnExactPrintProgramWrong : ChangeSpec := { name := "fnExactPrintProgram", vars := ["loop.example/kilntrace/impl.ops"], fn := fun _ => fun
  | [d, g1] => { results := [.lit (.bool false)], args := [d], vars := [g1] }
  | _ => none }
def FnExactPrintProgramWrongFalsely : Prop := fnExactPrintProgramRow.holds Tryd.pinned (OpenSpec.ofChange fnExactPrintProgramWrong)

/-- 'laws.FnExactValidStore': WHATEVER THE INPUT: true; the input reads as it did. -/
def fnExactValidStoreSpec : ChangeSpec := { name := "fnExactValidStore", vars := ["loop.example/kilntrace/impl.ops"], fn := fun _ => fun
  | [d, g1] => { results := [.lit (.bool true)], args := [d], vars := [g1] }
  | _ => none }
def fnExactValidStoreRow : OpenClaim := { program := "ytcdnlghlbljopaadoor", sum := "c9857c351ea8151fd68fe9d94d0198c779837b2e495eccecb2a6b9088f9a35ca", func := "loop.example/kilntrace/laws.FnExactValidStore", spec := "fnExactValidStore", named := ["loop.example/kilntrace/impl.ops"], apart := false, laid := [("loop.example/kilntrace/impl.ops", laid_loop_example_kilntrace_impl_ops)] }
def FnExactValidStoreSaid : Prop := fnExactValidStoreRow.holds Tryd.pinned (OpenSpec.ofChange fnExactValidStoreSpec)

/-- ITS FALSE NEIGHBOUR: 'it returns false'. Refute it at one input. -/
def fnExactValidStoreWrong : ChangeSpec := { name := "fnExactValidStore", vars := ["loop.example/kilntrace/impl.ops"], fn := fun _ => fun
  | [d, g1] => { results := [.lit (.bool false)], args := [d], vars := [g1] }
  | _ => none }
def FnExactValidStoreWrongFalsely : Prop := fnExactValidStoreRow.holds Tryd.pinned (OpenSpec.ofChange fnExactValidStoreWrong)

/-- 'laws.FnExactGetText': WHATEVER THE INPUT: true; the input reads as it did. -/
def fnExactGetTextSpec : ChangeSpec := { name := "fnExactGetText", vars := ["loop.example/kilntrace/impl.ops"], fn := fun _ => fun
  | [d1, d2, g1] => { results := [.lit (.bool true)], args := [d1, d2], vars := [g1] }
  | _ => none }
def fnExactGetTextRow : OpenClaim := { program := "ytcdnlghlbljopaadoor", sum := "c9857c351ea8151fd68fe9d94d0198c779837b2e495eccecb2a6b9088f9a35ca", func := "loop.example/kilntrace/laws.FnExactGetText", spec := "fnExactGetText", unfollowed := true, recurses := true, named := ["loop.example/kilntrace/impl.ops"], apart := false, laid := [("loop.example/kilntrace/impl.ops", laid_loop_example_kilntrace_impl_ops)] }
def FnExactGetTextSaid : Prop := fnExactGetTextRow.holds Tryd.pinned (OpenSpec.ofChange fnExactGetTextSpec)

/-- ITS FALSE NEIGHBOUR: 'it returns false'. Refute it at one input. -/
def fnExactGetTextWrong : ChangeSpec := { name := "fnExactGetText", vars := ["loop.example/kilntrace/impl.ops"], fn := fun _ => fun
  | [d1, d2, g1] => { results := [.lit (.bool false)], args := [d1, d2], vars := [g1] }
  | _ => none }
def FnExactGetTextWrongFalsely : Prop := fnExactGetTextRow.holds Tryd.pinned (OpenSpec.ofChange fnExactGetTextWrong)

/-- 'laws.FnExactNote': WHATEVER THE INPUT: true; the input reads as it did. -/
def fnExactNoteSpec : ChangeSpec := { name := "fnExactNote", vars := ["loop.example/kilntrace/impl.ops"], fn := fun _ => fun
  | [d1, d2, d3, d4, g1] => { results := [.lit (.bool true)], args := [d1, d2, d3, d4], vars := [g1] }
  | _ => none }
def fnExactNoteRow : OpenClaim := { program := "ytcdnlghlbljopaadoor", sum := "c9857c351ea8151fd68fe9d94d0198c779837b2e495eccecb2a6b9088f9a35ca", func := "loop.example/kilntrace/laws.FnExactNote", spec := "fnExactNote", recurses := true, named := ["loop.example/kilntrace/impl.ops"], apart := false, laid := [("loop.example/kilntrace/impl.ops", laid_loop_example_kilntrace_impl_ops)] }
def FnExactNoteSaid : Prop := fnExactNoteRow.holds Tryd.pinned (OpenSpec.ofChange fnExactNoteSpec)

/-- ITS FALSE NEIGHBOUR: 'it returns false'. Refute it at one input. -/
def fnExactNoteWrong : ChangeSpec := { name := "fnExactNote", vars := ["loop.example/kilntrace/impl.ops"], fn := fun _ => fun
  | [d1, d2, d3, d4, g1] => { results := [.lit (.bool false)], args := [d1, d2, d3, d4], vars := [g1] }
  | _ => none }
def FnExactNoteWrongFalsely : Prop := fnExactNoteRow.holds Tryd.pinned (OpenSpec.ofChange fnExactNoteWrong)

/-- 'laws.FnExactDrop': WHATEVER THE INPUT: true; the input reads as it did. -/
def fnExactDropSpec : ChangeSpec := { name := "fnExactDrop", vars := ["loop.example/kilntrace/impl.ops"], fn := fun _ => fun
  | [d1, d2, g1] => { results := [.lit (.bool true)], args := [d1, d2], vars := [g1] }
  | _ => none }
def fnExactDropRow : OpenClaim := { program := "ytcdnlghlbljopaadoor", sum := "c9857c351ea8151fd68fe9d94d0198c779837b2e495eccecb2a6b9088f9a35ca", func := "loop.example/kilntrace/laws.FnExactDrop", spec := "fnExactDrop", named := ["loop.example/kilntrace/impl.ops"], apart := false, laid := [("loop.example/kilntrace/impl.ops", laid_loop_example_kilntrace_impl_ops)] }
def FnExactDropSaid : Prop := fnExactDropRow.holds Tryd.pinned (OpenSpec.ofChange fnExactDropSpec)

/-- ITS FALSE NEIGHBOUR: 'it returns false'. Refute it at one input. -/
def fnExactDropWrong : ChangeSpec := { name := "fnExactDrop", vars := ["loop.example/kilntrace/impl.ops"], fn := fun _ => fun
  | [d1, d2, g1] => { results := [.lit (.bool false)], args := [d1, d2], vars := [g1] }
  | _ => none }
def FnExactDropWrongFalsely : Prop := fnExactDropRow.holds Tryd.pinned (OpenSpec.ofChange fnExactDropWrong)

/-- 'laws.FnExactPutText': WHATEVER THE INPUT: true; the input reads as it did. -/
def fnExactPutTextSpec : ChangeSpec := { name := "fnExactPutText", vars := ["loop.example/kilntrace/impl.ops"], fn := fun _ => fun
  | [d1, d2, g1] => { results := [.lit (.bool true)], args := [d1, d2], vars := [g1] }
  | _ => none }
def fnExactPutTextRow : OpenClaim := { program := "ytcdnlghlbljopaadoor", sum := "c9857c351ea8151fd68fe9d94d0198c779837b2e495eccecb2a6b9088f9a35ca", func := "loop.example/kilntrace/laws.FnExactPutText", spec := "fnExactPutText", unfollowed := true, recurses := true, named := ["loop.example/kilntrace/impl.ops"], apart := false, laid := [("loop.example/kilntrace/impl.ops", laid_loop_example_kilntrace_impl_ops)] }
def FnExactPutTextSaid : Prop := fnExactPutTextRow.holds Tryd.pinned (OpenSpec.ofChange fnExactPutTextSpec)

/-- ITS FALSE NEIGHBOUR: 'it returns false'. Refute it at one input. -/
def fnExactPutTextWrong : ChangeSpec := { name := "fnExactPutText", vars := ["loop.example/kilntrace/impl.ops"], fn := fun _ => fun
  | [d1, d2, g1] => { results := [.lit (.bool false)], args := [d1, d2], vars := [g1] }
  | _ => none }
def FnExactPutTextWrongFalsely : Prop := fnExactPutTextRow.holds Tryd.pinned (OpenSpec.ofChange fnExactPutTextWrong)

/-- 'laws.FnExactNext': WHATEVER THE INPUT: true; the input reads as it did. -/
def fnExactNextSpec : ChangeSpec := { name := "fnExactNext", vars := ["loop.example/kilntrace/impl.ops"], fn := fun _ => fun
  | [d1, d2, g1] => { results := [.lit (.bool true)], args := [d1, d2], vars := [g1] }
  | _ => none }
def fnExactNextRow : OpenClaim := { program := "ytcdnlghlbljopaadoor", sum := "c9857c351ea8151fd68fe9d94d0198c779837b2e495eccecb2a6b9088f9a35ca", func := "loop.example/kilntrace/laws.FnExactNext", spec := "fnExactNext", recurses := true, named := ["loop.example/kilntrace/impl.ops", "internal/strconv.uint64pow10", "math/bits.deBruijn32tab", "math/bits.deBruijn64tab"], apart := false, laid := [("math/bits.deBruijn32tab", laid_math_bits_deBruijn32tab), ("math/bits.deBruijn64tab", laid_math_bits_deBruijn64tab), ("internal/strconv.uint64pow10", laid_internal_strconv_uint64pow10), ("loop.example/kilntrace/impl.ops", laid_loop_example_kilntrace_impl_ops)] }
def FnExactNextSaid : Prop := fnExactNextRow.holds Tryd.pinned (OpenSpec.ofChange fnExactNextSpec)

/-- ITS FALSE NEIGHBOUR: 'it returns false'. Refute it at one input. -/
def fnExactNextWrong : ChangeSpec := { name := "fnExactNext", vars := ["loop.example/kilntrace/impl.ops"], fn := fun _ => fun
  | [d1, d2, g1] => { results := [.lit (.bool false)], args := [d1, d2], vars := [g1] }
  | _ => none }
def FnExactNextWrongFalsely : Prop := fnExactNextRow.holds Tryd.pinned (OpenSpec.ofChange fnExactNextWrong)

/-- 'laws.FnExactMerge': WHATEVER THE INPUT: true; the input reads as it did. -/
def fnExactMergeSpec : ChangeSpec := { name := "fnExactMerge", vars := ["loop.example/kilntrace/impl.ops"], fn := fun _ => fun
  | [d1, d2, g1] => { results := [.lit (.bool true)], args := [d1, d2], vars := [g1] }
  | _ => none }
def fnExactMergeRow : OpenClaim := { program := "ytcdnlghlbljopaadoor", sum := "c9857c351ea8151fd68fe9d94d0198c779837b2e495eccecb2a6b9088f9a35ca", func := "loop.example/kilntrace/laws.FnExactMerge", spec := "fnExactMerge", unfollowed := true, recurses := true, named := ["loop.example/kilntrace/impl.ops"], apart := false, laid := [("loop.example/kilntrace/impl.ops", laid_loop_example_kilntrace_impl_ops)] }
def FnExactMergeSaid : Prop := fnExactMergeRow.holds Tryd.pinned (OpenSpec.ofChange fnExactMergeSpec)

/-- ITS FALSE NEIGHBOUR: 'it returns false'. Refute it at one input. -/
def fnExactMergeWrong : ChangeSpec := { name := "fnExactMerge", vars := ["loop.example/kilntrace/impl.ops"], fn := fun _ => fun
  | [d1, d2, g1] => { results := [.lit (.bool false)], args := [d1, d2], vars := [g1] }
  | _ => none }
def FnExactMergeWrongFalsely : Prop := fnExactMergeRow.holds Tryd.pinned (OpenSpec.ofChange fnExactMergeWrong)

/-- 'laws.FnExactPrintStore': WHATEVER THE INPUT: true; the input reads as it did. -/
def fnExactPrintStoreSpec : ChangeSpec := { name := "fnExactPrintStore", vars := ["loop.example/kilntrace/impl.ops"], fn := fun _ => fun
  | [d, g1] => { results := [.lit (.bool true)], args := [d], vars := [g1] }
  | _ => none }
def fnExactPrintStoreRow : OpenClaim := { program := "ytcdnlghlbljopaadoor", sum := "c9857c351ea8151fd68fe9d94d0198c779837b2e495eccecb2a6b9088f9a35ca", func := "loop.example/kilntrace/laws.FnExactPrintStore", spec := "fnExactPrintStore", inPlace := ["internal/abi.NoEscape"], recurses := true, named := ["loop.example/kilntrace/impl.ops", "internal/strconv.uint64pow10", "math/bits.deBruijn32tab", "math/bits.deBruijn64tab"], apart := false, laid := [("math/bits.deBruijn32tab", laid_math_bits_deBruijn32tab), ("math/bits.deBruijn64tab", laid_math_bits_deBruijn64tab), ("internal/strconv.uint64pow10", laid_internal_strconv_uint64pow10), ("loop.example/kilntrace/impl.ops", laid_loop_example_kilntrace_impl_ops)] }
def FnExactPrintStoreSaid : Prop := fnExactPrintStoreRow.holds Tryd.pinned (OpenSpec.ofChange fnExactPrintStoreSpec)

/-- ITS FALSE NEIGHBOUR: 'it returns false'. Refute it at one input. -/
def fnExactPrintStoreWrong : ChangeSpec := { name := "fnExactPrintStore", vars := ["loop.example/kilntrace/impl.ops"], fn := fun _ => fun
  | [d, g1] => { results := [.lit (.bool false)], args := [d], vars := [g1] }
  | _ => none }
def FnExactPrintStoreWrongFalsely : Prop := fnExactPrintStoreRow.holds Tryd.pinned (OpenSpec.ofChange fnExactPrintStoreWrong)

/- THE SECOND FORM. 'bulk': how many values and letters a reading holds, each counted each time it is reached (what is shared counts as often as it is met; a slice's spare places count too). A statement '..UptoSaid' is the law's where the arguments, and the package variables that the reading takes, are together of bulk at most 1048576: NARROWER than '..Said'. Prove '..Said' where nothing that the law and all that it calls make is longer than what came in: it says more and counts as full. Else prove '..UptoSaid'. A law counts once. -/
mutual
def uptoBulk {H : Type} : DataW H → Nat
  | .lit (.string bytes) => bytes.length + 1
  | .lit _ => 1
  | .nil => 1
  | .ptr d => uptoBulk d + 1
  | .slice elems spare => uptoBulkAll elems + uptoBulkAll spare + 1
  | .agg parts => uptoBulkAll parts + 1
  | .iface _ d => uptoBulk d + 1
  | .map entries => uptoBulkEntries entries + 1
  | .held _ => 1
def uptoBulkAll {H : Type} : List (DataW H) → Nat
  | [] => 0
  | d :: r => uptoBulk d + uptoBulkAll r
def uptoBulkEntries {H : Type} : List (Lit × DataW H) → Nat
  | [] => 0
  | x :: r => uptoBulkEntry x + uptoBulkEntries r
def uptoBulkEntry {H : Type} : Lit × DataW H → Nat
  | (.string bytes, d) => bytes.length + uptoBulk d + 1
  | (_, d) => uptoBulk d + 1
 end
def uptoSmall : (H : Type) → List (DataW H) → Bool := fun _ ds => decide (uptoBulkAll ds ≤ 1048576)
def OpenSpec.upto (s : _root_.Go.ChangeSpec) : _root_.Go.OpenSpec := { _root_.Go.OpenSpec.ofChange s with cond := some uptoSmall }

/-- 'laws.FnExactValidProgram', WHERE WHAT IT READS IS OF BULK AT MOST 1048576: true; the input reads as it did. -/
def fnExactValidProgramUptoRow : OpenClaim := { program := "ytcdnlghlbljopaadoor", sum := "c9857c351ea8151fd68fe9d94d0198c779837b2e495eccecb2a6b9088f9a35ca", func := "loop.example/kilntrace/laws.FnExactValidProgram", spec := "fnExactValidProgram", named := ["loop.example/kilntrace/impl.ops"], apart := false, laid := [("loop.example/kilntrace/impl.ops", laid_loop_example_kilntrace_impl_ops)], narrowed := true }
def FnExactValidProgramUptoSaid : Prop := fnExactValidProgramUptoRow.holds Tryd.pinned (OpenSpec.upto fnExactValidProgramSpec)

/-- 'laws.FnExactCheckSpace', WHERE WHAT IT READS IS OF BULK AT MOST 1048576: true; the input reads as it did. -/
def fnExactCheckSpaceUptoRow : OpenClaim := { program := "ytcdnlghlbljopaadoor", sum := "c9857c351ea8151fd68fe9d94d0198c779837b2e495eccecb2a6b9088f9a35ca", func := "loop.example/kilntrace/laws.FnExactCheckSpace", spec := "fnExactCheckSpace", named := ["loop.example/kilntrace/impl.ops"], apart := false, laid := [("loop.example/kilntrace/impl.ops", laid_loop_example_kilntrace_impl_ops)], narrowed := true }
def FnExactCheckSpaceUptoSaid : Prop := fnExactCheckSpaceUptoRow.holds Tryd.pinned (OpenSpec.upto fnExactCheckSpaceSpec)

/-- 'laws.FnExactPrintProgram', WHERE WHAT IT READS IS OF BULK AT MOST 1048576: true; the input reads as it did. -/
def fnExactPrintProgramUptoRow : OpenClaim := { program := "ytcdnlghlbljopaadoor", sum := "c9857c351ea8151fd68fe9d94d0198c779837b2e495eccecb2a6b9088f9a35ca", func := "loop.example/kilntrace/laws.FnExactPrintProgram", spec := "fnExactPrintProgram", inPlace := ["internal/abi.NoEscape"], recurses := true, named := ["loop.example/kilntrace/impl.ops", "internal/strconv.uint64pow10", "math/bits.deBruijn32tab", "math/bits.deBruijn64tab"], apart := false, laid := [("math/bits.deBruijn32tab", laid_math_bits_deBruijn32tab), ("math/bits.deBruijn64tab", laid_math_bits_deBruijn64tab), ("internal/strconv.uint64pow10", laid_internal_strconv_uint64pow10), ("loop.example/kilntrace/impl.ops", laid_loop_example_kilntrace_impl_ops)], narrowed := true }
def FnExactPrintProgramUptoSaid : Prop := fnExactPrintProgramUptoRow.holds Tryd.pinned (OpenSpec.upto fnExactPrintProgramSpec)

/-- 'laws.FnExactValidStore', WHERE WHAT IT READS IS OF BULK AT MOST 1048576: true; the input reads as it did. -/
def fnExactValidStoreUptoRow : OpenClaim := { program := "ytcdnlghlbljopaadoor", sum := "c9857c351ea8151fd68fe9d94d0198c779837b2e495eccecb2a6b9088f9a35ca", func := "loop.example/kilntrace/laws.FnExactValidStore", spec := "fnExactValidStore", named := ["loop.example/kilntrace/impl.ops"], apart := false, laid := [("loop.example/kilntrace/impl.ops", laid_loop_example_kilntrace_impl_ops)], narrowed := true }
def FnExactValidStoreUptoSaid : Prop := fnExactValidStoreUptoRow.holds Tryd.pinned (OpenSpec.upto fnExactValidStoreSpec)

/-- 'laws.FnExactGetText', WHERE WHAT IT READS IS OF BULK AT MOST 1048576: true; the input reads as it did. -/
def fnExactGetTextUptoRow : OpenClaim := { program := "ytcdnlghlbljopaadoor", sum := "c9857c351ea8151fd68fe9d94d0198c779837b2e495eccecb2a6b9088f9a35ca", func := "loop.example/kilntrace/laws.FnExactGetText", spec := "fnExactGetText", unfollowed := true, recurses := true, named := ["loop.example/kilntrace/impl.ops"], apart := false, laid := [("loop.example/kilntrace/impl.ops", laid_loop_example_kilntrace_impl_ops)], narrowed := true }
def FnExactGetTextUptoSaid : Prop := fnExactGetTextUptoRow.holds Tryd.pinned (OpenSpec.upto fnExactGetTextSpec)

/-- 'laws.FnExactNote', WHERE WHAT IT READS IS OF BULK AT MOST 1048576: true; the input reads as it did. -/
def fnExactNoteUptoRow : OpenClaim := { program := "ytcdnlghlbljopaadoor", sum := "c9857c351ea8151fd68fe9d94d0198c779837b2e495eccecb2a6b9088f9a35ca", func := "loop.example/kilntrace/laws.FnExactNote", spec := "fnExactNote", recurses := true, named := ["loop.example/kilntrace/impl.ops"], apart := false, laid := [("loop.example/kilntrace/impl.ops", laid_loop_example_kilntrace_impl_ops)], narrowed := true }
def FnExactNoteUptoSaid : Prop := fnExactNoteUptoRow.holds Tryd.pinned (OpenSpec.upto fnExactNoteSpec)

/-- 'laws.FnExactDrop', WHERE WHAT IT READS IS OF BULK AT MOST 1048576: true; the input reads as it did. -/
def fnExactDropUptoRow : OpenClaim := { program := "ytcdnlghlbljopaadoor", sum := "c9857c351ea8151fd68fe9d94d0198c779837b2e495eccecb2a6b9088f9a35ca", func := "loop.example/kilntrace/laws.FnExactDrop", spec := "fnExactDrop", named := ["loop.example/kilntrace/impl.ops"], apart := false, laid := [("loop.example/kilntrace/impl.ops", laid_loop_example_kilntrace_impl_ops)], narrowed := true }
def FnExactDropUptoSaid : Prop := fnExactDropUptoRow.holds Tryd.pinned (OpenSpec.upto fnExactDropSpec)

/-- 'laws.FnExactPutText', WHERE WHAT IT READS IS OF BULK AT MOST 1048576: true; the input reads as it did. -/
def fnExactPutTextUptoRow : OpenClaim := { program := "ytcdnlghlbljopaadoor", sum := "c9857c351ea8151fd68fe9d94d0198c779837b2e495eccecb2a6b9088f9a35ca", func := "loop.example/kilntrace/laws.FnExactPutText", spec := "fnExactPutText", unfollowed := true, recurses := true, named := ["loop.example/kilntrace/impl.ops"], apart := false, laid := [("loop.example/kilntrace/impl.ops", laid_loop_example_kilntrace_impl_ops)], narrowed := true }
def FnExactPutTextUptoSaid : Prop := fnExactPutTextUptoRow.holds Tryd.pinned (OpenSpec.upto fnExactPutTextSpec)

/-- 'laws.FnExactNext', WHERE WHAT IT READS IS OF BULK AT MOST 1048576: true; the input reads as it did. -/
def fnExactNextUptoRow : OpenClaim := { program := "ytcdnlghlbljopaadoor", sum := "c9857c351ea8151fd68fe9d94d0198c779837b2e495eccecb2a6b9088f9a35ca", func := "loop.example/kilntrace/laws.FnExactNext", spec := "fnExactNext", recurses := true, named := ["loop.example/kilntrace/impl.ops", "internal/strconv.uint64pow10", "math/bits.deBruijn32tab", "math/bits.deBruijn64tab"], apart := false, laid := [("math/bits.deBruijn32tab", laid_math_bits_deBruijn32tab), ("math/bits.deBruijn64tab", laid_math_bits_deBruijn64tab), ("internal/strconv.uint64pow10", laid_internal_strconv_uint64pow10), ("loop.example/kilntrace/impl.ops", laid_loop_example_kilntrace_impl_ops)], narrowed := true }
def FnExactNextUptoSaid : Prop := fnExactNextUptoRow.holds Tryd.pinned (OpenSpec.upto fnExactNextSpec)

/-- 'laws.FnExactMerge', WHERE WHAT IT READS IS OF BULK AT MOST 1048576: true; the input reads as it did. -/
def fnExactMergeUptoRow : OpenClaim := { program := "ytcdnlghlbljopaadoor", sum := "c9857c351ea8151fd68fe9d94d0198c779837b2e495eccecb2a6b9088f9a35ca", func := "loop.example/kilntrace/laws.FnExactMerge", spec := "fnExactMerge", unfollowed := true, recurses := true, named := ["loop.example/kilntrace/impl.ops"], apart := false, laid := [("loop.example/kilntrace/impl.ops", laid_loop_example_kilntrace_impl_ops)], narrowed := true }
def FnExactMergeUptoSaid : Prop := fnExactMergeUptoRow.holds Tryd.pinned (OpenSpec.upto fnExactMergeSpec)

/-- 'laws.FnExactPrintStore', WHERE WHAT IT READS IS OF BULK AT MOST 1048576: true; the input reads as it did. -/
def fnExactPrintStoreUptoRow : OpenClaim := { program := "ytcdnlghlbljopaadoor", sum := "c9857c351ea8151fd68fe9d94d0198c779837b2e495eccecb2a6b9088f9a35ca", func := "loop.example/kilntrace/laws.FnExactPrintStore", spec := "fnExactPrintStore", inPlace := ["internal/abi.NoEscape"], recurses := true, named := ["loop.example/kilntrace/impl.ops", "internal/strconv.uint64pow10", "math/bits.deBruijn32tab", "math/bits.deBruijn64tab"], apart := false, laid := [("math/bits.deBruijn32tab", laid_math_bits_deBruijn32tab), ("math/bits.deBruijn64tab", laid_math_bits_deBruijn64tab), ("internal/strconv.uint64pow10", laid_internal_strconv_uint64pow10), ("loop.example/kilntrace/impl.ops", laid_loop_example_kilntrace_impl_ops)], narrowed := true }
def FnExactPrintStoreUptoSaid : Prop := fnExactPrintStoreUptoRow.holds Tryd.pinned (OpenSpec.upto fnExactPrintStoreSpec)

end Rows
end Go.Proofs.YtcdnlghlbljopaaDoor
