/- Quadratic forms: the next form, the program's own; and the law. -/
import Derived.Test.YtodbmnbahldabaaDoorFormG
import Derived.Deep.RegionHeld3
import Derived.IntWalk
namespace Go.Proofs.YtodbmnbahldabaaDoor
open Go.ChangeShapes Go.WideShapes Go.ChangeAt Go.RowKit
set_option linter.unusedVariables false
set_option maxHeartbeats 1000000
theorem stC_bound {a b c : Int} (ha : -10000 ≤ a ∧ a ≤ 10000) (hb : -10000 ≤ b ∧ b ≤ 10000) (hcb : -10000 ≤ c ∧ c ≤ 10000) (hc : c ≠ 0) : -350000000 ≤ stC a b c (dF a b c) ∧ stC a b c (dF a b c) ≤ 350000000 := by
  have hd := dF_range ha hb hcb
  obtain ⟨f1, f2, -⟩ := step_facts ha hb hcb hc
  have h1 := mul_f (A := 30000) (B := 30000) (a := stB b c (dF a b c)) (b := stB b c (dF a b c)) (by omega) (by omega)
  generalize stB b c (dF a b c) = B at *
  generalize stC a b c (dF a b c) = C at *
  have e : 4 * c * C = 4 * (c * C) := Int.mul_assoc ..
  have : C.natAbs ≤ (c * C).natAbs := by
    rw [Int.natAbs_mul]
    exact Nat.le_mul_of_pos_left _ (by omega)
  omega
/-- Is the next form plain? -/
def stepV (a b c : Int) : Bool := vF (stepF a b c).a (stepF a b c).b (stepF a b c).c
def zF : Fm := ⟨0, 0, 0⟩
/-- The next form of whatever form, and the code. -/
def stR (a b c : Int) : Fm × Int := if vF a b c = true then (if stepV a b c = true then (stepF a b c, 0) else (zF, 5)) else (zF, 1)
end Go.Proofs.YtodbmnbahldabaaDoor
