/- What laws over drawn equations share: pairs compared, lengths, bytes that are too many. -/
import Derived.Test.YtdbbjmcfpfalhaaDoorDrawB
import Derived.Test.YtdbbjmcfpfalhaaDoorEqB
import Derived.BigGuardPart
namespace Go.Proofs.YtdbbjmcfpfalhaaDoor
open Go.ChangeShapes Go.WideShapes Go.ChangeAt Go.RowKit
set_option linter.unusedVariables false
set_option maxHeartbeats 8000000
set_option maxRecDepth 20000
theorem stoodPP : Tryd.prog.stoodInHeld 32 = false := by kernel_rfl
theorem guardPP : Tryd.prog.eqGuardType Tryd.prog.depth 32 = false := by kernel_rfl
theorem fieldsPP : Tryd.prog.underlying 32 = some (.struct (Tryd.prog.fieldsOf 32)) := by kernel_rfl
theorem neqPP (a b : Int) (w : World) : (binOp .neq 32 (.agg #[.int .i64 a, .int .i64 b]) (.agg #[.int .i64 a, .int .i64 b])).run Tryd.prog w = .ok (.bool false) w := by
  rw [run_neq_struct, run_equalIn_struct w 9999 32 _ _ fieldsPP stoodPP]
  simp [go_sem, Tryd.underlying32, Tryd.underlying2]
theorem lenS (a : Option Addr) (n c : Nat) (V : World) : Sem.run Tryd.prog (Builtin.len_ #[28] 3 #[.slice a n c]) V = .ok (.int .i64 n) V := by
  simp [Builtin.len_, go_sem]
theorem f6big_any (ao : Option Addr) (n cap : Nat) (w : World) :
    Calls Tryd.prog 7 #[.slice ao n cap] w fun e w' => e = .returned (.bool (decide (4096 < n))) ∧ w = w' := by
  by_cases h : 4096 < n
  · have h1 : (4096 : Int) < (n : Int) := by omega
    go_enter Tryd.func7, Tryd.ntmps7
    go_wp2_with fail
    go_ret
    exact ⟨ret_bool (by first | (simp; done) | (simp [h]; done)), rfl⟩
  · have h1 : ¬ (4096 : Int) < (n : Int) := by omega
    go_enter Tryd.func7, Tryd.ntmps7
    go_wp2_with fail
    go_ret
    exact ⟨ret_bool (by first | (simp; done) | (simp [h]; done)), rfl⟩
theorem scR_ok {d n x y u v : Int} (hc : eqC d n = 0) (h1 : isS d n x y = true) (h2 : isS d n u v = true) : scR d n x y u v = (smB d n x y u v, 0) := by
  unfold scR
  rw [if_pos hc, h1, h2]
  rfl
theorem slR_ok {d n x y : Int} (hc : eqC d n = 0) (h1 : isS d n x y = true) : slR d n x y = true := by
  unfold slR
  rw [h1, hc]
  rfl
end Go.Proofs.YtdbbjmcfpfalhaaDoor
