/- The walks of the laws over operations' names and plain states. -/
import Derived.Test.YtpomabkeagkhjaaState
import Derived.Test.YtpomabkeagkhjaaAggs
namespace Go.Proofs.Ytpomabkeagkhjaa
open Go.ChangeShapes Go.WideShapes Go.ChangeAt Go.RowKit
set_option linter.unusedVariables false
theorem walk_FnExactOpName (a0 : Int) (w0 : (Lit.int .i64 a0).wf = true) (w : World) :
    Calls Try.prog 3 #[.int .i64 a0] w fun e w' => e = .returned (.bool true) ∧ Below w.heap.size w w' := by
  have hb := bounds_i64 w0
  by_cases h : 1 ≤ a0 ∧ a0 ≤ 4
  · obtain ⟨h1, h2⟩ := h
    have : a0 = 1 ∨ a0 = 2 ∨ a0 = 3 ∨ a0 = 4 := by omega
    rcases this with rfl | rfl | rfl | rfl
    all_goals
      go_enter Try.func3, Try.ntmps3
      go_wp2
      go_ret
      exact ⟨rfl, by go_grown⟩
  · by_cases h1 : 1 ≤ a0
    · have h2 : ¬ a0 ≤ 4 := by omega
      go_enter Try.func3, Try.ntmps3
      go_wp2
      go_ret
      exact ⟨rfl, by go_grown⟩
    · go_enter Try.func3, Try.ntmps3
      go_wp2
      go_ret
      exact ⟨rfl, by go_grown⟩
end Go.Proofs.Ytpomabkeagkhjaa
