import Derived.Test.YtaiagocjnnfkmaaRows
import Derived.Test.YtaiagocjnnfkmaaAmTX
import Derived.WalkKit
import Derived.ProofKit
import Derived.OpenShut
import Derived.SizedLaws
import Derived.LaidMore
import Derived.Stop.Joined
namespace Go.Proofs.Ytaiagocjnnfkmaa.Amu.Facts
open Go Go.ChangeShapes Go.WideShapes Go.ChangeAt Go.RowKit Go.AM
set_option linter.unusedVariables false
set_option maxRecDepth 100000
theorem own : ownKnob Try.prog.godebug = none := by kernel_rfl
theorem laidOut : laidOutB Try.checked.prog = true := by kernel_rfl
theorem mapsRow : mapsRowed Try.checked.prog = true := by kernel_rfl
theorem plainK : (Rows.fnExactConstantsRow.plainKeys == Try.checked.prog.plainKeys) = true := by kernel_rfl
theorem stopsH : Try.checked.prog.stopsHeard = true := by kernel_rfl
theorem mayE : Try.checked.prog.mayEnter = true := by kernel_rfl
theorem lifts : (Rows.fnExactConstantsRow.lifted == Try.checked.prog.liftsFinal) = true := by kernel_rfl
theorem mixed : Try.checked.prog.follows .mixedOrders = true := by kernel_rfl
theorem andI {a b : Bool} (h : a = true) (k : b = true) : (a && b) = true := by rw [h, k]; rfl
end Go.Proofs.Ytaiagocjnnfkmaa.Amu.Facts
