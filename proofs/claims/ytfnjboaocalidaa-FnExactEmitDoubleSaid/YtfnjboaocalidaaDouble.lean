/- The functions on bihomographic functions (Double): bounds, plainness, what is left when a list has ended. -/
import Derived.Test.YtfnjboaocalidaaState
namespace Go.Proofs.Ytfnjboaocalidaa
open Go.ChangeShapes Go.WideShapes Go.ChangeAt Go.RowKit
set_option linter.unusedVariables false
set_option maxHeartbeats 1000000
/-- No number of a function is beyond 'most'. -/
def bD (m a b c d e f g h : Int) : Bool := inR a (-m) m && inR b (-m) m && inR c (-m) m && inR d (-m) m && inR e (-m) m && inR f (-m) m && inR g (-m) m && inR h (-m) m
def eD (e f g h : Int) : Bool := e == 0 && f == 0 && g == 0 && h == 0
/-- A plain function. -/
def vD (a b c d e f g h : Int) : Bool := bD 1000000000 a b c d e f g h && !eD e f g h
structure Db where
  a : Int
  b : Int
  c : Int
  d : Int
  e : Int
  f : Int
  g : Int
  h : Int
def zD : Db := ⟨0, 0, 0, 0, 0, 0, 0, 0⟩
theorem bD_iff {m a b c d e f g h : Int} : bD m a b c d e f g h = true ↔ (-m ≤ a ∧ a ≤ m) ∧ (-m ≤ b ∧ b ≤ m) ∧ (-m ≤ c ∧ c ≤ m) ∧ (-m ≤ d ∧ d ≤ m) ∧ (-m ≤ e ∧ e ≤ m) ∧ (-m ≤ f ∧ f ≤ m) ∧ (-m ≤ g ∧ g ≤ m) ∧ (-m ≤ h ∧ h ≤ m) := by
  simp only [bD, Bool.and_eq_true, inR_iff, and_assoc]
theorem vD_b {a b c d e f g h : Int} (hv : vD a b c d e f g h = true) : bD 1000000000 a b c d e f g h = true := by
  simp only [vD, Bool.and_eq_true] at hv; exact hv.1
theorem isBoundedDouble_any (a b c d e f g h m : Int) (w : World) (hm : 0 ≤ m) (hm' : m ≤ 1000000000000) :
    Calls Try.prog 63 #[.agg #[.int .i64 a, .int .i64 b, .int .i64 c, .int .i64 d, .int .i64 e, .int .i64 f, .int .i64 g, .int .i64 h], .int .i64 m] w fun e' w' => e' = .returned (.bool (bD m a b c d e f g h)) ∧ Below w.heap.size w w' := by
  go_enter Try.func63, Try.ntmps63
  go_wp2
  refine wp_loop_rounds 9 ?_
  repeat any_goals (rw [rounds_succ]; go_wp2_with (go_at_call 64; refine (within_any _ _ _ _).mono ?_; rintro e w1 ⟨rfl, rfl⟩))
  all_goals
    go_ret
    simp only [Bool.not_eq_true', Bool.not_eq_false'] at *
    exact ⟨by simp [bD, *], (by repeat' (first | (with_reducible exact Below.refl _ _) | (with_reducible assumption) | (with_reducible refine Below.setCell ?_ ?_ _) | (with_reducible refine Below.alloc ?_ ?_ _) | (with_reducible refine Below.drew ?_) | (with_reducible refine below_drewN ?_ _) | (with_reducible refine Below.trans ?_ (Below.mono (by with_reducible assumption) ?_)) | go_size | (simp at *; omega)))⟩
theorem hasEnded_any (a b c d e f g h : Int) (w : World) :
    Calls Try.prog 85 #[.agg #[.int .i64 a, .int .i64 b, .int .i64 c, .int .i64 d, .int .i64 e, .int .i64 f, .int .i64 g, .int .i64 h]] w fun e' w' => e' = .returned (.bool (eD e f g h)) ∧ Below w.heap.size w w' := by
  go_enter Try.func85, Try.ntmps85
  go_wp2
  all_goals
    go_ret
    exact ⟨by simp [eD, *], (by repeat' (first | (with_reducible exact Below.refl _ _) | (with_reducible assumption) | (with_reducible refine Below.setCell ?_ ?_ _) | (with_reducible refine Below.alloc ?_ ?_ _) | (with_reducible refine Below.drew ?_) | (with_reducible refine below_drewN ?_ _) | (with_reducible refine Below.trans ?_ (Below.mono (by with_reducible assumption) ?_)) | go_size | (simp at *; omega)))⟩
theorem validDouble_any (a b c d e f g h : Int) (w : World) :
    Calls Try.prog 62 #[.agg #[.int .i64 a, .int .i64 b, .int .i64 c, .int .i64 d, .int .i64 e, .int .i64 f, .int .i64 g, .int .i64 h]] w fun e' w' => e' = .returned (.bool (vD a b c d e f g h)) ∧ Below w.heap.size w w' := by
  cases hb : bD 1000000000 a b c d e f g h
  all_goals
    go_enter Try.func62, Try.ntmps62
    go_wp2_with (first | (go_at_call 63; refine (isBoundedDouble_any _ _ _ _ _ _ _ _ _ _ (by omega) (by omega)).mono ?_; rintro e w1 ⟨rfl, hb1⟩; obtain ⟨hc1, hf1, -, hB1⟩ := bcell hb1; have hz1 := hb1.size; (try simp at hz1); (try have hk0 : w.heap.size < w1.heap.size := by omega); (try have hk1 : w.heap.size + 1 < w1.heap.size := by omega); (try have hk2 : w.heap.size + 1 + 1 < w1.heap.size := by omega)) | (go_at_call 85; refine (hasEnded_any _ _ _ _ _ _ _ _ _).mono ?_; rintro e w1 ⟨rfl, hb1⟩; obtain ⟨hc1, hf1, -, hB1⟩ := bcell hb1; have hz1 := hb1.size; (try simp at hz1); (try have hk0 : w.heap.size < w1.heap.size := by omega); (try have hk1 : w.heap.size + 1 < w1.heap.size := by omega); (try have hk2 : w.heap.size + 1 + 1 < w1.heap.size := by omega)))
    go_ret
    exact ⟨ret_bool (by simp [vD, hb]), (by repeat' (first | (with_reducible exact Below.refl _ _) | (with_reducible assumption) | (with_reducible refine Below.setCell ?_ ?_ _) | (with_reducible refine Below.alloc ?_ ?_ _) | (with_reducible refine Below.drew ?_) | (with_reducible refine below_drewN ?_ _) | (with_reducible refine Below.trans ?_ (Below.mono (by with_reducible assumption) ?_)) | go_size | (simp at *; omega)))⟩
theorem l14Fits_any (a b c d e f g h : Int) (w : World) :
    Calls Try.prog 79 #[.agg #[.int .i64 a, .int .i64 b, .int .i64 c, .int .i64 d, .int .i64 e, .int .i64 f, .int .i64 g, .int .i64 h]] w fun e' w' => e' = .returned (.bool (bD 1000000000 a b c d e f g h)) ∧ Below w.heap.size w w' := by
  go_enter Try.func79, Try.ntmps79
  go_wp2_with (go_at_call 89; refine (num_any _ _).mono ?_; rintro e w1 ⟨rfl, rfl⟩)
  all_goals
    go_ret
    exact ⟨by simp [bD, inS, *] at *; try simp [*], (by repeat' (first | (with_reducible exact Below.refl _ _) | (with_reducible assumption) | (with_reducible refine Below.setCell ?_ ?_ _) | (with_reducible refine Below.alloc ?_ ?_ _) | (with_reducible refine Below.drew ?_) | (with_reducible refine below_drewN ?_ _) | (with_reducible refine Below.trans ?_ (Below.mono (by with_reducible assumption) ?_)) | go_size | (simp at *; omega)))⟩
theorem l14Ok_any (a b c d e f g h : Int) (w : World) :
    Calls Try.prog 48 #[.agg #[.int .i64 a, .int .i64 b, .int .i64 c, .int .i64 d, .int .i64 e, .int .i64 f, .int .i64 g, .int .i64 h]] w fun e' w' => e' = .returned (.bool (vD a b c d e f g h)) ∧ Below w.heap.size w w' := by
  cases hb : bD 1000000000 a b c d e f g h
  all_goals
    go_enter Try.func48, Try.ntmps48
    go_wp2_with (go_at_call 79; refine (l14Fits_any _ _ _ _ _ _ _ _ _).mono ?_; rintro e w1 ⟨rfl, hb1⟩; obtain ⟨hc1, hf1, -, hB1⟩ := bcell hb1; have hz1 := hb1.size; (try simp at hz1); (try have hk0 : w.heap.size < w1.heap.size := by omega); (try have hk1 : w.heap.size + 1 < w1.heap.size := by omega); (try have hk2 : w.heap.size + 1 + 1 < w1.heap.size := by omega))
    all_goals
      go_ret
      exact ⟨ret_bool (by rw [vD, hb]; simp [eD, bne, *]), (by repeat' (first | (with_reducible exact Below.refl _ _) | (with_reducible assumption) | (with_reducible refine Below.setCell ?_ ?_ _) | (with_reducible refine Below.alloc ?_ ?_ _) | (with_reducible refine Below.drew ?_) | (with_reducible refine below_drewN ?_ _) | (with_reducible refine Below.trans ?_ (Below.mono (by with_reducible assumption) ?_)) | go_size | (simp at *; omega)))⟩
end Go.Proofs.Ytfnjboaocalidaa
