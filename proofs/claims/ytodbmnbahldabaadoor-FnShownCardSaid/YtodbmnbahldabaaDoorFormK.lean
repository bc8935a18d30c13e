/- Quadratic forms: the steps to a reduced form, walked: the program; and the law. -/
import Derived.Test.YtodbmnbahldabaaDoorFormJ
namespace Go.Proofs.YtodbmnbahldabaaDoor
open Go.ChangeShapes Go.WideShapes Go.ChangeAt Go.RowKit
set_option linter.unusedVariables false
set_option maxHeartbeats 1000000
/-- The reduced form of whatever form, the steps, and the code. -/
def reR (a b c : Int) : Fm × Int × Int := if vF a b c = true then (if (rdR a b c).2.2 = true then ((rdR a b c).1, (rdR a b c).2.1, 0) else (zF, 0, 5)) else (zF, 0, 1)
end Go.Proofs.YtodbmnbahldabaaDoor
