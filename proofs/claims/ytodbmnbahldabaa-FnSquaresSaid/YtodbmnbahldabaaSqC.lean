/- Plain numbers, no program: the disproof of sums of squares against the search, for small numbers: what the kernel reckons. -/
import Derived.Test.YtodbmnbahldabaaSqK
namespace Go.Proofs.Ytodbmnbahldabaa
open Go.ChangeShapes Go.WideShapes Go.ChangeAt Go.RowKit
set_option linter.unusedVariables false
set_option maxHeartbeats 1000000
set_option maxRecDepth 1000000 in
theorem chk_a : chkAll 0 1800 = true := by decide +kernel
set_option maxRecDepth 1000000 in
theorem chk_b : chkAll 1800 1800 = true := by decide +kernel
set_option maxRecDepth 1000000 in
theorem chk_c : chkAll 3600 1800 = true := by decide +kernel
set_option maxRecDepth 1000000 in
theorem chk_d : chkAll 5400 1600 = true := by decide +kernel
set_option maxRecDepth 1000000 in
theorem chk_p : chkN 1100 2100 1000 999983 = true := by decide +kernel
set_option maxRecDepth 1000000 in
theorem chk_m : chkN 1100 2100 1000 1000000 = true := by decide +kernel
end Go.Proofs.Ytodbmnbahldabaa
