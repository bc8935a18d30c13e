/- The states: what the small functions on states return, in both packages. -/
import Derived.Test.YtpomabkeagkhjaaBase
namespace Go.Proofs.Ytpomabkeagkhjaa
open Go.ChangeShapes Go.WideShapes Go.ChangeAt Go.RowKit
set_option linter.unusedVariables false

def inS (n : Int) : Bool := inR n (-1000000000) 1000000000
theorem inS_iff {n : Int} : inS n = true ↔ -1000000000 ≤ n ∧ n ≤ 1000000000 := inR_iff
/-- No number of a state is too great. -/
def bS (a b c d : Int) : Bool := inS a && inS b && inS c && inS d
theorem bS_iff {a b c d : Int} : bS a b c d = true ↔ (-1000000000 ≤ a ∧ a ≤ 1000000000) ∧ (-1000000000 ≤ b ∧ b ≤ 1000000000) ∧ (-1000000000 ≤ c ∧ c ≤ 1000000000) ∧ (-1000000000 ≤ d ∧ d ≤ 1000000000) := by
  simp only [bS, Bool.and_eq_true, inS_iff, and_assoc]
/-- A plain state. -/
def vS (a b c d : Int) : Bool := bS a b c d && (a * d != b * c)

theorem mul_abs {a b A B : Int} (ha : -A ≤ a ∧ a ≤ A) (hb : -B ≤ b ∧ b ≤ B) : -(A * B) ≤ a * b ∧ a * b ≤ A * B := by
  have hA : 0 ≤ A := by omega
  have hB : 0 ≤ B := by omega
  have h1 : (a * b).natAbs ≤ (A * B).natAbs := by
    rw [Int.natAbs_mul, Int.natAbs_mul]
    exact Nat.mul_le_mul (by omega) (by omega)
  have h2 : 0 ≤ A * B := Int.mul_nonneg hA hB
  omega
theorem mul_s {a b : Int} (ha : -1000000000 ≤ a ∧ a ≤ 1000000000) (hb : -1000000000 ≤ b ∧ b ≤ 1000000000) : -1000000000000000000 ≤ a * b ∧ a * b ≤ 1000000000000000000 := by
  have := mul_abs ha hb
  omega

theorem num_any (n : Int) (w : World) :
    Calls Try.prog 65 #[.int .i64 n] w fun e w' => e = .returned (.bool (inS n)) ∧ w = w' := by
  go_enter Try.func65, Try.ntmps65
  go_wp2_with (go_at_call 47; refine (in_any _ _ _ _).mono ?_; rintro e w' ⟨rfl, rfl⟩)
  go_ret
  exact ⟨rfl, rfl⟩
theorem isBounded_any (a b c d : Int) (w : World) :
    Calls Try.prog 46 #[.agg #[.int .i64 a, .int .i64 b, .int .i64 c, .int .i64 d]] w fun e w' => e = .returned (.bool (bS a b c d)) ∧ Below w.heap.size w w' := by
  go_enter Try.func46, Try.ntmps46
  go_wp2_with (go_at_call 48; refine (within_any _ _ _ _).mono ?_; rintro e w' ⟨rfl, rfl⟩)
  all_goals
    go_ret
    exact ⟨by simp [bS, inS, *], by go_grown⟩
theorem fits_any (a b c d : Int) (w : World) :
    Calls Try.prog 63 #[.agg #[.int .i64 a, .int .i64 b, .int .i64 c, .int .i64 d]] w fun e w' => e = .returned (.bool (bS a b c d)) ∧ Below w.heap.size w w' := by
  go_enter Try.func63, Try.ntmps63
  go_wp2_with (go_at_call 65; refine (num_any _ _).mono ?_; rintro e w' ⟨rfl, rfl⟩)
  all_goals
    go_ret
    exact ⟨by simp [bS, *], by go_grown⟩
theorem validState_any (a b c d : Int) (w : World) :
    Calls Try.prog 19 #[.agg #[.int .i64 a, .int .i64 b, .int .i64 c, .int .i64 d]] w fun e w' => e = .returned (.bool (vS a b c d)) ∧ Below w.heap.size w w' := by
  cases hb : bS a b c d
  · have hv : vS a b c d = false := by simp [vS, hb]
    go_enter Try.func19, Try.ntmps19
    go_wp2_with (go_at_call 46; refine (isBounded_any _ _ _ _ _).mono ?_; rintro e w1 ⟨rfl, hb1⟩; obtain ⟨hc1, hf1, hz1⟩ := bcell hb1)
    go_ret
    exact ⟨ret_bool hv.symm, (by repeat' (first | exact Below.refl _ _ | (with_reducible assumption) | refine Below.alloc ?_ ?_ _ | refine Below.setCell ?_ ?_ _ | refine Below.drew ?_ | refine Below.trans ?_ (Below.mono hb1 ?_) | go_size | (simp at *; omega)))⟩
  · obtain ⟨ha, hb', hc, hd⟩ := bS_iff.1 hb
    obtain ⟨m1, m2⟩ := mul_s ha hd
    obtain ⟨m3, m4⟩ := mul_s hb' hc
    go_enter Try.func19, Try.ntmps19
    go_wp2_with (go_at_call 46; refine (isBounded_any _ _ _ _ _).mono ?_; rintro e w1 ⟨rfl, hb1⟩; obtain ⟨hc1, hf1, hz1⟩ := bcell hb1)
    go_ret
    exact ⟨ret_bool (by simp [vS, hb]), (by repeat' (first | exact Below.refl _ _ | (with_reducible assumption) | refine Below.alloc ?_ ?_ _ | refine Below.setCell ?_ ?_ _ | refine Below.drew ?_ | refine Below.trans ?_ (Below.mono hb1 ?_) | go_size | (simp at *; omega)))⟩
end Go.Proofs.Ytpomabkeagkhjaa
