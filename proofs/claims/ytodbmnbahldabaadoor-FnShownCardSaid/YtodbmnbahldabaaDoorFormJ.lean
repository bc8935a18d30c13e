/- Quadratic forms: the steps to a reduced form, walked: the reference. -/
import Derived.Test.YtodbmnbahldabaaDoorFormI
import Derived.Test.YtodbmnbahldabaaDoorMem
namespace Go.Proofs.YtodbmnbahldabaaDoor
open Go.ChangeShapes Go.WideShapes Go.ChangeAt Go.RowKit
set_option linter.unusedVariables false
set_option maxHeartbeats 1000000
def rdR (a b c : Int) : Fm × Int × Bool := rdF 10003 ⟨a, b, c⟩ 0
end Go.Proofs.YtodbmnbahldabaaDoor
