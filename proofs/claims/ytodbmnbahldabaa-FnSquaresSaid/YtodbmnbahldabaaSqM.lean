/- Plain numbers, no program: roots of -1 of small numbers lead to squares: what the kernel reckons. -/
import Derived.Test.YtodbmnbahldabaaSqK
namespace Go.Proofs.Ytodbmnbahldabaa
open Go.ChangeShapes Go.WideShapes Go.ChangeAt Go.RowKit
set_option linter.unusedVariables false
set_option maxHeartbeats 1000000
def euN (k : Nat) (fuel : Nat) : Nat → Nat → Bool :=
  Nat.rec (fun a b => Nat.beq (a * a + b * b) k) (fun _ ih a b => cond (Nat.ble (k + 1) (a * a)) (ih b (a % b)) (Nat.beq (a * a + b * b) k)) fuel
/-- The least root from x on leads to squares, and its opposite too. -/
def mrN (k : Nat) (fuel : Nat) : Nat → Bool :=
  Nat.rec (fun _ => true) (fun _ ih x => cond (Nat.ble k x) true (cond (Nat.beq ((x * x + 1) % k) 0) (euN k k k x && euN k k k (k - x)) (ih (x + 1)))) fuel
def mrAll (lo n : Nat) : Bool := Nat.rec true (fun j ih => mrN (lo + j + 1) (lo + j) 1 && ih) n
set_option maxRecDepth 1000000 in
theorem mr_a : mrAll 2 900 = true := by decide +kernel
set_option maxRecDepth 1000000 in
theorem mr_b : mrAll 902 500 = true := by decide +kernel
set_option maxRecDepth 1000000 in
theorem mr_c : mrAll 1402 400 = true := by decide +kernel
set_option maxRecDepth 1000000 in
theorem mr_d : mrAll 1802 300 = true := by decide +kernel
end Go.Proofs.Ytodbmnbahldabaa
