import Derived.Test.YtjiiipmeocageaaPrx2
import Derived.Test.YtjiiipmeocageaaXo
namespace Go.Proofs.Ytjiiipmeocageaa.Pr
open Go.RowKit Go.Proofs.YtjiiipmeocageaaW.PrintWords Go.Proofs.YtjiiipmeocageaaW.PrintLast Go.Proofs.YtjiiipmeocageaaW.PrintMore
/-- The one pure statement of the law. -/
def laws_FnExactEventOk.Pure : Prop := ∀ (a0_0 : Bool) (a0_1 : Int) (a0_2 : Int) (a0_3 : Int), I64 a0_1 → I64 a0_2 → I64 a0_3 → laws_FnExactEventOk.f a0_0 a0_1 a0_2 a0_3 = some true
end Go.Proofs.Ytjiiipmeocageaa.Pr
