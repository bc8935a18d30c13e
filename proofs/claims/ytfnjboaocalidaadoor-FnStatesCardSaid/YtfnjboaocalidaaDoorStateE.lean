/- Terms that are emitted, the reference's; joined states, both packages. -/
import Derived.Test.YtfnjboaocalidaaDoorStateD
namespace Go.Proofs.YtfnjboaocalidaaDoor
open Go.ChangeShapes Go.WideShapes Go.ChangeAt Go.RowKit
set_option linter.unusedVariables false
set_option maxHeartbeats 4000000

end Go.Proofs.YtfnjboaocalidaaDoor
