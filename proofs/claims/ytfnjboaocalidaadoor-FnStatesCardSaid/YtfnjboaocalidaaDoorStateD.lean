/- Terms that are emitted, and joined states; both packages. -/
import Derived.Test.YtfnjboaocalidaaDoorStateC
namespace Go.Proofs.YtfnjboaocalidaaDoor
open Go.ChangeShapes Go.WideShapes Go.ChangeAt Go.RowKit
set_option linter.unusedVariables false
set_option maxHeartbeats 2000000

end Go.Proofs.YtfnjboaocalidaaDoor
