/- A term that is emitted is the floor, and what is left is the inverse of the rest: the walk. -/
import Derived.Test.YtfnjboaocalidaaDoorEmP
import Derived.Test.YtfnjboaocalidaaDoorRatC
import Derived.Test.YtfnjboaocalidaaDoorA2
namespace Go.Proofs.YtfnjboaocalidaaDoor
open Go.ChangeShapes Go.WideShapes Go.ChangeAt Go.RowKit
set_option linter.unusedVariables false
set_option maxHeartbeats 8000000
set_option maxRecDepth 20000
theorem stoodFr : Tryd.prog.stoodInHeld 32 = false := by kernel_rfl
theorem guardFr : Tryd.prog.eqGuardType Tryd.prog.depth 32 = false := by kernel_rfl
theorem fieldsFr : Tryd.prog.underlying 32 = some (.struct (Tryd.prog.fieldsOf 32)) := by kernel_rfl
theorem eqlFr (a b : Int) (w : World) : (binOp .eql 32 (.agg #[.int .i64 a, .int .i64 b]) (.agg #[.int .i64 a, .int .i64 b])).run Tryd.prog w = .ok (.bool true) w := by
  rw [run_eql_struct, run_equalIn_struct w 9999 32 _ _ fieldsFr stoodFr]
  simp [go_sem, Tryd.underlying32, Tryd.underlying2]
theorem neqFr (a b : Int) (w : World) : (binOp .neq 32 (.agg #[.int .i64 a, .int .i64 b]) (.agg #[.int .i64 a, .int .i64 b])).run Tryd.prog w = .ok (.bool false) w := by
  rw [run_neq_struct, run_equalIn_struct w 9999 32 _ _ fieldsFr stoodFr]
  simp [go_sem, Tryd.underlying32, Tryd.underlying2]
end Go.Proofs.YtfnjboaocalidaaDoor
