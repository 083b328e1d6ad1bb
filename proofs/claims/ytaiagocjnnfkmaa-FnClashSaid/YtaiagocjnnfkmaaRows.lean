/-
  No cell of these rows narrows 'for every input' (looked for: loops, veiled, ifaces, maps, wideKeys, modest, calm, conditions, laid).
  DERIVED. THE GIVEN ROWS OF THIS SEAT. 6 by the template 'for every input the law returns true; each argument reads behind the call as it read before'; 0 by the template 'total and deterministic' (their statements: YtaiagocjnnfkmaaTotals.lean).
  GIVEN WITH THE SEED: the statements are not yours to turn. If you find one false, say at which input.
  Laid BY PROGRAM, IN A SANDBOX (cutbox-rows.mjs): the forced cells as the released guide's own fill.sh prints them over the translation 8b1ff532a04f4ee3… (all of the seat's roots in one cut). By AI agents, Wed Nov 11 2026. No macro, syntax, notation, axiom, sorry.
-/
import Derived.Test.YtaiagocjnnfkmaaChecked
import GoSem.Claim
import GoSem.ClaimJoined
import GoSem.ClaimMapViews
import Derived.JoinedTies
import Derived.KernelRfl
namespace Go.Proofs.Ytaiagocjnnfkmaa
/- THE CELL 'sum', in the pinned program and in every row, IS THE sha256 OF THE DUMP (.gsa) THAT YtaiagocjnnfkmaaProg.lean LOADS. Nothing in Lean hashes anything: it is a label: what it is worth is what the hold of that sum in a sandbox is worth. -/
noncomputable def Try.pinned : Pinned := { name := "ytaiagocjnnfkmaa", sum := "8b1ff532a04f4ee302fb94222f57c5b2d8f404f2e8f25a98e2719ed08c0b5fb7", checked := Try.checked }
namespace Rows
def none {H : Type} : Left H := { results := [], args := [] }

/-- 'laws.FnExactConstants': WHATEVER THE INPUT: true; the input reads as it did. -/
def fnExactConstantsSpec : ChangeSpec := { name := "fnExactConstants", fn := fun _ => fun
  | [] => { results := [.lit (.bool true)], args := [] }
  | _ => none }
def fnExactConstantsRow : OpenClaim := { program := "ytaiagocjnnfkmaa", sum := "8b1ff532a04f4ee302fb94222f57c5b2d8f404f2e8f25a98e2719ed08c0b5fb7", func := "loop.example/kilntrace/laws.FnExactConstants", spec := "fnExactConstants", apart := false }
def FnExactConstantsSaid : Prop := fnExactConstantsRow.holds Try.pinned (OpenSpec.ofChange fnExactConstantsSpec)

/-- ITS FALSE NEIGHBOUR: 'it returns false'. Refute it at one input. -/
def fnExactConstantsWrong : ChangeSpec := { name := "fnExactConstants", fn := fun _ => fun
  | [] => { results := [.lit (.bool false)], args := [] }
  | _ => none }
def FnExactConstantsWrongFalsely : Prop := fnExactConstantsRow.holds Try.pinned (OpenSpec.ofChange fnExactConstantsWrong)

/-- 'laws.FnExactSum': WHATEVER THE INPUT: true; the input reads as it did. -/
def fnExactSumSpec : ChangeSpec := { name := "fnExactSum", fn := fun _ => fun
  | [d1, d2] => { results := [.lit (.bool true)], args := [d1, d2] }
  | _ => none }
def fnExactSumRow : OpenClaim := { program := "ytaiagocjnnfkmaa", sum := "8b1ff532a04f4ee302fb94222f57c5b2d8f404f2e8f25a98e2719ed08c0b5fb7", func := "loop.example/kilntrace/laws.FnExactSum", spec := "fnExactSum", apart := false }
def FnExactSumSaid : Prop := fnExactSumRow.holds Try.pinned (OpenSpec.ofChange fnExactSumSpec)

/-- ITS FALSE NEIGHBOUR: 'it returns false'. Refute it at one input. -/
def fnExactSumWrong : ChangeSpec := { name := "fnExactSum", fn := fun _ => fun
  | [d1, d2] => { results := [.lit (.bool false)], args := [d1, d2] }
  | _ => none }
def FnExactSumWrongFalsely : Prop := fnExactSumRow.holds Try.pinned (OpenSpec.ofChange fnExactSumWrong)

/-- 'laws.FnExactReadResult': WHATEVER THE INPUT: true; the input reads as it did. -/
def fnExactReadResultSpec : ChangeSpec := { name := "fnExactReadResult", fn := fun _ => fun
  | [d] => { results := [.lit (.bool true)], args := [d] }
  | _ => none }
def fnExactReadResultRow : OpenClaim := { program := "ytaiagocjnnfkmaa", sum := "8b1ff532a04f4ee302fb94222f57c5b2d8f404f2e8f25a98e2719ed08c0b5fb7", func := "loop.example/kilntrace/laws.FnExactReadResult", spec := "fnExactReadResult", apart := false }
def FnExactReadResultSaid : Prop := fnExactReadResultRow.holds Try.pinned (OpenSpec.ofChange fnExactReadResultSpec)

/-- ITS FALSE NEIGHBOUR: 'it returns false'. Refute it at one input. -/
def fnExactReadResultWrong : ChangeSpec := { name := "fnExactReadResult", fn := fun _ => fun
  | [d] => { results := [.lit (.bool false)], args := [d] }
  | _ => none }
def FnExactReadResultWrongFalsely : Prop := fnExactReadResultRow.holds Try.pinned (OpenSpec.ofChange fnExactReadResultWrong)

/-- 'laws.FnExactFormResult': WHATEVER THE INPUT: true; the input reads as it did. -/
def fnExactFormResultSpec : ChangeSpec := { name := "fnExactFormResult", fn := fun _ => fun
  | [d] => { results := [.lit (.bool true)], args := [d] }
  | _ => none }
def fnExactFormResultRow : OpenClaim := { program := "ytaiagocjnnfkmaa", sum := "8b1ff532a04f4ee302fb94222f57c5b2d8f404f2e8f25a98e2719ed08c0b5fb7", func := "loop.example/kilntrace/laws.FnExactFormResult", spec := "fnExactFormResult", recurses := true, apart := false }
def FnExactFormResultSaid : Prop := fnExactFormResultRow.holds Try.pinned (OpenSpec.ofChange fnExactFormResultSpec)

/-- ITS FALSE NEIGHBOUR: 'it returns false'. Refute it at one input. -/
def fnExactFormResultWrong : ChangeSpec := { name := "fnExactFormResult", fn := fun _ => fun
  | [d] => { results := [.lit (.bool false)], args := [d] }
  | _ => none }
def FnExactFormResultWrongFalsely : Prop := fnExactFormResultRow.holds Try.pinned (OpenSpec.ofChange fnExactFormResultWrong)

/-- 'laws.FnExactClash': WHATEVER THE INPUT: true; the input reads as it did. -/
def fnExactClashSpec : ChangeSpec := { name := "fnExactClash", fn := fun _ => fun
  | [d1, d2] => { results := [.lit (.bool true)], args := [d1, d2] }
  | _ => none }
def fnExactClashRow : OpenClaim := { program := "ytaiagocjnnfkmaa", sum := "8b1ff532a04f4ee302fb94222f57c5b2d8f404f2e8f25a98e2719ed08c0b5fb7", func := "loop.example/kilntrace/laws.FnExactClash", spec := "fnExactClash", apart := false }
def FnExactClashSaid : Prop := fnExactClashRow.holds Try.pinned (OpenSpec.ofChange fnExactClashSpec)

/-- ITS FALSE NEIGHBOUR: 'it returns false'. Refute it at one input. -/
def fnExactClashWrong : ChangeSpec := { name := "fnExactClash", fn := fun _ => fun
  | [d1, d2] => { results := [.lit (.bool false)], args := [d1, d2] }
  | _ => none }
def FnExactClashWrongFalsely : Prop := fnExactClashRow.holds Try.pinned (OpenSpec.ofChange fnExactClashWrong)

/-- 'laws.FnClash': WHATEVER THE INPUT: true; the input reads as it did. -/
def fnClashSpec : ChangeSpec := { name := "fnClash", fn := fun _ => fun
  | [d] => { results := [.lit (.bool true)], args := [d] }
  | _ => none }
def fnClashRow : OpenClaim := { program := "ytaiagocjnnfkmaa", sum := "8b1ff532a04f4ee302fb94222f57c5b2d8f404f2e8f25a98e2719ed08c0b5fb7", func := "loop.example/kilntrace/laws.FnClash", spec := "fnClash", apart := false }
def FnClashSaid : Prop := fnClashRow.holds Try.pinned (OpenSpec.ofChange fnClashSpec)

/-- ITS FALSE NEIGHBOUR: 'it returns false'. Refute it at one input. -/
def fnClashWrong : ChangeSpec := { name := "fnClash", fn := fun _ => fun
  | [d] => { results := [.lit (.bool false)], args := [d] }
  | _ => none }
def FnClashWrongFalsely : Prop := fnClashRow.holds Try.pinned (OpenSpec.ofChange fnClashWrong)

/- THE SECOND FORM. 'bulk': how many values and letters a reading holds, each counted each time it is reached (what is shared counts as often as it is met; a slice's spare places count too). A statement '..UptoSaid' is the law's where the arguments, and the package variables that the reading takes, are together of bulk at most 1048576: NARROWER than '..Said'. Prove '..Said' where nothing that the law and all that it calls make is longer than what came in: it says more and counts as full. Else prove '..UptoSaid'. A law counts once. -/
mutual
def uptoBulk {H : Type} : DataW H → Nat
  | .lit (.string bytes) => bytes.length + 1
  | .lit _ => 1
  | .nil => 1
  | .ptr d => uptoBulk d + 1
  | .slice elems spare => uptoBulkAll elems + uptoBulkAll spare + 1
  | .agg parts => uptoBulkAll parts + 1
  | .iface _ d => uptoBulk d + 1
  | .map entries => uptoBulkEntries entries + 1
  | .held _ => 1
def uptoBulkAll {H : Type} : List (DataW H) → Nat
  | [] => 0
  | d :: r => uptoBulk d + uptoBulkAll r
def uptoBulkEntries {H : Type} : List (Lit × DataW H) → Nat
  | [] => 0
  | x :: r => uptoBulkEntry x + uptoBulkEntries r
def uptoBulkEntry {H : Type} : Lit × DataW H → Nat
  | (.string bytes, d) => bytes.length + uptoBulk d + 1
  | (_, d) => uptoBulk d + 1
 end
def uptoSmall : (H : Type) → List (DataW H) → Bool := fun _ ds => decide (uptoBulkAll ds ≤ 1048576)
def OpenSpec.upto (s : _root_.Go.ChangeSpec) : _root_.Go.OpenSpec := { _root_.Go.OpenSpec.ofChange s with cond := some uptoSmall }

/-- 'laws.FnExactConstants', WHERE WHAT IT READS IS OF BULK AT MOST 1048576: true; the input reads as it did. -/
def fnExactConstantsUptoRow : OpenClaim := { program := "ytaiagocjnnfkmaa", sum := "8b1ff532a04f4ee302fb94222f57c5b2d8f404f2e8f25a98e2719ed08c0b5fb7", func := "loop.example/kilntrace/laws.FnExactConstants", spec := "fnExactConstants", apart := false, narrowed := true }
def FnExactConstantsUptoSaid : Prop := fnExactConstantsUptoRow.holds Try.pinned (OpenSpec.upto fnExactConstantsSpec)

/-- 'laws.FnExactSum', WHERE WHAT IT READS IS OF BULK AT MOST 1048576: true; the input reads as it did. -/
def fnExactSumUptoRow : OpenClaim := { program := "ytaiagocjnnfkmaa", sum := "8b1ff532a04f4ee302fb94222f57c5b2d8f404f2e8f25a98e2719ed08c0b5fb7", func := "loop.example/kilntrace/laws.FnExactSum", spec := "fnExactSum", apart := false, narrowed := true }
def FnExactSumUptoSaid : Prop := fnExactSumUptoRow.holds Try.pinned (OpenSpec.upto fnExactSumSpec)

/-- 'laws.FnExactReadResult', WHERE WHAT IT READS IS OF BULK AT MOST 1048576: true; the input reads as it did. -/
def fnExactReadResultUptoRow : OpenClaim := { program := "ytaiagocjnnfkmaa", sum := "8b1ff532a04f4ee302fb94222f57c5b2d8f404f2e8f25a98e2719ed08c0b5fb7", func := "loop.example/kilntrace/laws.FnExactReadResult", spec := "fnExactReadResult", apart := false, narrowed := true }
def FnExactReadResultUptoSaid : Prop := fnExactReadResultUptoRow.holds Try.pinned (OpenSpec.upto fnExactReadResultSpec)

/-- 'laws.FnExactFormResult', WHERE WHAT IT READS IS OF BULK AT MOST 1048576: true; the input reads as it did. -/
def fnExactFormResultUptoRow : OpenClaim := { program := "ytaiagocjnnfkmaa", sum := "8b1ff532a04f4ee302fb94222f57c5b2d8f404f2e8f25a98e2719ed08c0b5fb7", func := "loop.example/kilntrace/laws.FnExactFormResult", spec := "fnExactFormResult", recurses := true, apart := false, narrowed := true }
def FnExactFormResultUptoSaid : Prop := fnExactFormResultUptoRow.holds Try.pinned (OpenSpec.upto fnExactFormResultSpec)

/-- 'laws.FnExactClash', WHERE WHAT IT READS IS OF BULK AT MOST 1048576: true; the input reads as it did. -/
def fnExactClashUptoRow : OpenClaim := { program := "ytaiagocjnnfkmaa", sum := "8b1ff532a04f4ee302fb94222f57c5b2d8f404f2e8f25a98e2719ed08c0b5fb7", func := "loop.example/kilntrace/laws.FnExactClash", spec := "fnExactClash", apart := false, narrowed := true }
def FnExactClashUptoSaid : Prop := fnExactClashUptoRow.holds Try.pinned (OpenSpec.upto fnExactClashSpec)

/-- 'laws.FnClash', WHERE WHAT IT READS IS OF BULK AT MOST 1048576: true; the input reads as it did. -/
def fnClashUptoRow : OpenClaim := { program := "ytaiagocjnnfkmaa", sum := "8b1ff532a04f4ee302fb94222f57c5b2d8f404f2e8f25a98e2719ed08c0b5fb7", func := "loop.example/kilntrace/laws.FnClash", spec := "fnClash", apart := false, narrowed := true }
def FnClashUptoSaid : Prop := fnClashUptoRow.holds Try.pinned (OpenSpec.upto fnClashSpec)

end Rows
end Go.Proofs.Ytaiagocjnnfkmaa
