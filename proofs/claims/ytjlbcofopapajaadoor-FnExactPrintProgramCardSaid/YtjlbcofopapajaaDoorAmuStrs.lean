import Derived.Test.YtjlbcofopapajaaDoorAmuTy
import Derived.Test.YtjlbcofopapajaaDoorAmM
import Derived.Test.YtjlbcofopapajaaDoorProg
namespace Go.Proofs.YtjlbcofopapajaaDoor.Amu.Strs
open Go Go.AM Go.Proofs
set_option linter.all false
open Ty
variable {ro : Nat} {X : FuncId → List Value → AH → ARes → AH → Prop}
set_option maxRecDepth 10000
end Go.Proofs.YtjlbcofopapajaaDoor.Amu.Strs
