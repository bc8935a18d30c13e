/- Quadratic forms: the values, and their law. -/
import Derived.Test.YtolbihoeheogkaaDoorFormB
namespace Go.Proofs.YtolbihoeheogkaaDoor
open Go.ChangeShapes Go.WideShapes Go.ChangeAt Go.RowKit
set_option linter.unusedVariables false
set_option maxHeartbeats 1000000
def vA (a b c x y : Int) : Int := a * x * x + b * x * y + c * y * y
def aR (a b c x y : Int) : Int × Int := if vF a b c = true then (if (inF x && inF y) = true then (vA a b c x y, 0) else (0, 2)) else (0, 1)
theorem tri_f {a x y : Int} (ha : -10000 ≤ a ∧ a ≤ 10000) (hx : -10000 ≤ x ∧ x ≤ 10000) (hy : -10000 ≤ y ∧ y ≤ 10000) : (-100000000 ≤ a * x ∧ a * x ≤ 100000000) ∧ (-1000000000000 ≤ a * x * y ∧ a * x * y ≤ 1000000000000) := by
  have h1 := mul_f ha hx
  have h2 := mul_f (a := a * x) (b := y) (A := 100000000) (B := 10000) (by omega) hy
  exact ⟨by omega, by omega⟩
end Go.Proofs.YtolbihoeheogkaaDoor
