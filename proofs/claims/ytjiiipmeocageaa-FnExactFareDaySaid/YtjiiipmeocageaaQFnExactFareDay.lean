import Derived.Test.YtjiiipmeocageaaPrx5
import Derived.Test.YtjiiipmeocageaaXo
namespace Go.Proofs.Ytjiiipmeocageaa.Pr
open Go.RowKit Go.Proofs.YtjiiipmeocageaaW.PrintWords Go.Proofs.YtjiiipmeocageaaW.PrintLast Go.Proofs.YtjiiipmeocageaaW.PrintMore
/-- The one pure statement of the law. -/
def laws_FnExactFareDay.Pure : Prop := ∀ (l0_0 : List Int) (a0_1 : Int) (a0_2 : Int) (l1 : List Int), (l0_0.length ≤ maxLen ∧ ∀ x_ ∈ l0_0, I64 x_) → I64 a0_1 → I64 a0_2 → (l1.length ≤ maxLen ∧ ∀ x_ ∈ l1, I64 x_) → ∃ k, laws_FnExactFareDay.f k l0_0 a0_1 a0_2 l1 = some true
end Go.Proofs.Ytjiiipmeocageaa.Pr
