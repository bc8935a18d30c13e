/- Quadratic forms: the discriminant and the values, and their laws. -/
import Derived.Test.YtodbmnbahldabaaDoorAggs
import Derived.Test.YtodbmnbahldabaaDoorForm
namespace Go.Proofs.YtodbmnbahldabaaDoor
open Go.ChangeShapes Go.WideShapes Go.ChangeAt Go.RowKit
set_option linter.unusedVariables false
set_option maxHeartbeats 1000000
theorem vF_in {a b c : Int} (h : vF a b c = true) : (-10000 ≤ a ∧ a ≤ 10000) ∧ (-10000 ≤ b ∧ b ≤ 10000) ∧ (-10000 ≤ c ∧ c ≤ 10000) := by
  simp only [vF, Bool.and_eq_true, inF_iff] at h
  exact ⟨h.1.1.1.1.1, h.1.1.1.1.2, h.1.1.1.2⟩
/-- The discriminant of a plain form, and the code. -/
def dR (a b c : Int) : Int × Int := if vF a b c = true then (dF a b c, 0) else (0, 1)
end Go.Proofs.YtodbmnbahldabaaDoor
