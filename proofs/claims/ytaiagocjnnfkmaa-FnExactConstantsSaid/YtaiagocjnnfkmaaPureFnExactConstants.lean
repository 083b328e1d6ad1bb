/- The law FnExactConstants answers true: every exported constant is the document's. There are no conditions: it has no arguments. -/
import Derived.Test.YtaiagocjnnfkmaaPFnExactConstantsx1
namespace Go.Proofs.Ytaiagocjnnfkmaa.Pure
open Go.RowKit Go.Proofs.Ytaiagocjnnfkmaa.PFnExactConstants Go.Proofs.YtaiagocjnnfkmaaW.PrintWords Go.Proofs.YtaiagocjnnfkmaaW.PrintLast

theorem FnExactConstants : laws_FnExactConstants.Pure := rfl

end Go.Proofs.Ytaiagocjnnfkmaa.Pure
