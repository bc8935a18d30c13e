/- Finding a form in a list. -/
import Derived.Test.YtolbihoeheogkaaDoorFmsF
namespace Go.Proofs.YtolbihoeheogkaaDoor
open Go.ChangeShapes Go.WideShapes Go.ChangeAt Go.RowKit
set_option linter.unusedVariables false
set_option maxHeartbeats 1000000
theorem stoodF : Tryd.prog.stoodInHeld 25 = false := by kernel_rfl
theorem guardF : Tryd.prog.eqGuardType Tryd.prog.depth 25 = false := by kernel_rfl
theorem fieldsF : Tryd.prog.underlying 25 = some (.struct (Tryd.prog.fieldsOf 25)) := by kernel_rfl
/-- Are two forms the same, number by number? -/
def eq6 (a b c x y z : Int) : Bool := a == x && (b == y && c == z)
theorem eqlF (a b c x y z : Int) (w : World) : (binOp .eql 25 (.agg #[.int .i64 a, .int .i64 b, .int .i64 c]) (.agg #[.int .i64 x, .int .i64 y, .int .i64 z])).run Tryd.prog w = .ok (.bool (eq6 a b c x y z)) w := by
  rw [run_eql_struct, run_equalIn_struct w 9999 25 _ _ fieldsF stoodF]
  simp [go_sem, Tryd.underlying25, Tryd.underlying2]
  by_cases h1 : a = x
  · by_cases h2 : b = y
    · by_cases h3 : c = z <;> simp [eq6, h1, h2, h3]
    · simp [eq6, h1, h2]
  · simp [eq6, h1]
theorem neqF (a b c x y z : Int) (w : World) : (binOp .neq 25 (.agg #[.int .i64 a, .int .i64 b, .int .i64 c]) (.agg #[.int .i64 x, .int .i64 y, .int .i64 z])).run Tryd.prog w = .ok (.bool (!eq6 a b c x y z)) w := by
  rw [run_neq_struct, run_equalIn_struct w 9999 25 _ _ fieldsF stoodF]
  simp [go_sem, Tryd.underlying25, Tryd.underlying2]
  by_cases h1 : a = x
  · by_cases h2 : b = y
    · by_cases h3 : c = z <;> simp [eq6, h1, h2, h3]
    · simp [eq6, h1, h2]
  · simp [eq6, h1]
def eqFm (f g : Fm) : Bool := eq6 f.a f.b f.c g.a g.b g.c
theorem eqFm_iff {f g : Fm} : eqFm f g = true ↔ f = g := by
  obtain ⟨a, b, c⟩ := f
  obtain ⟨x, y, z⟩ := g
  simp [eqFm, eq6]
/-- The place of a form in a list. -/
def fiF (f : Fm) : List Fm → Int → Int
  | [], _ => -1
  | x :: L, i => if eqFm x f = true then i else fiF f L (i + 1)
theorem fi_step {f : Fm} {L : List Fm} {i : Nat} (h : i < L.length) : fiF f (L.drop i) i = if eqFm L[i] f = true then (i : Int) else fiF f (L.drop (i + 1)) ((i + 1 : Nat) : Int) := by
  rw [List.drop_eq_getElem_cons h]
  rfl
end Go.Proofs.YtolbihoeheogkaaDoor
