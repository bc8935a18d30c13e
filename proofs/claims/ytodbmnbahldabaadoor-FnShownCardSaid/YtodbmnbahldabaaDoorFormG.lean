/- Quadratic forms: the next form, walked in both packages. -/
import Derived.Test.YtodbmnbahldabaaDoorFormF
namespace Go.Proofs.YtodbmnbahldabaaDoor
open Go.ChangeShapes Go.WideShapes Go.ChangeAt Go.RowKit
set_option linter.unusedVariables false
set_option maxHeartbeats 1000000
theorem hiF_cases (c d : Int) : (¬ 0 < d ∧ hiF c d = ab c) ∨ (0 < d ∧ ab c ≤ rt d ∧ hiF c d = rt d) ∨ (0 < d ∧ ¬ ab c ≤ rt d ∧ hiF c d = ab c) := by
  unfold hiF
  by_cases h1 : 0 < d
  · by_cases h2 : ab c ≤ rt d
    · exact .inr (.inl ⟨h1, h2, by simp [h1, h2]⟩)
    · exact .inr (.inr ⟨h1, h2, by simp [h2]⟩)
  · exact .inl ⟨h1, by simp [h1]⟩
theorem exact_tdiv {x y q : Int} (hy : y ≠ 0) (h : x = y * q) : x.tdiv y = q ∧ x / y = q := by
  subst h
  exact ⟨Int.mul_tdiv_cancel_left _ hy, Int.mul_ediv_cancel_left _ hy⟩
end Go.Proofs.YtodbmnbahldabaaDoor
