/- States and fractions: values of a state, terms that are emitted, joined states; both packages. -/
import Derived.Test.YtfnjboaocalidaaState
import Derived.Test.YtfnjboaocalidaaFrac
namespace Go.Proofs.Ytfnjboaocalidaa
open Go.ChangeShapes Go.WideShapes Go.ChangeAt Go.RowKit
set_option linter.unusedVariables false
set_option maxHeartbeats 1000000

def zQ : Fr := ⟨0, 0⟩
def endF (a b c d : Int) : Fr × Int := if vS a b c d = true then (if (c == 0) = true then (zQ, 6) else plainQ a c) else (zQ, 1)
def atF (a b c d n e : Int) : Fr × Int := if vS a b c d = true ∧ vQ n e = true then (if (c * n + d * e == 0) = true then (zQ, 6) else plainQ (a * n + b * e) (c * n + d * e)) else (zQ, 1)
theorem wide_s {a b c d : Int} (h : vS a b c d = true) : (-1000000000 ≤ a ∧ a ≤ 1000000000) ∧ (-1000000000 ≤ b ∧ b ≤ 1000000000) ∧ (-1000000000 ≤ c ∧ c ≤ 1000000000) ∧ (-1000000000 ≤ d ∧ d ≤ 1000000000) := by
  simp only [vS, Bool.and_eq_true] at h; exact bS_iff.1 h.1
theorem endState_any (a b c d : Int) (w : World) :
    Calls Try.prog 23 #[.agg #[.int .i64 a, .int .i64 b, .int .i64 c, .int .i64 d]] w fun e w' => e = .returned (.tuple #[.agg #[.int .i64 (endF a b c d).1.n, .int .i64 (endF a b c d).1.d], .int .i64 (endF a b c d).2]) ∧ Below w.heap.size w w' := by
  cases hv : vS a b c d
  · go_enter Try.func23, Try.ntmps23
    go_wp2_with (go_at_call 43; refine (validState_any _ _ _ _ _).mono ?_; rintro e w1 ⟨rfl, hb1⟩; obtain ⟨hc1, hf1, -, hB1⟩ := bcell hb1; have hz1 := hb1.size; (try simp at hz1); (try have hk0 : w.heap.size < w1.heap.size := by omega); (try have hk1 : w.heap.size + 1 < w1.heap.size := by omega); (try have hk2 : w.heap.size + 1 + 1 < w1.heap.size := by omega))
    apply body_row2 (w.heap.size + 1) 39 Try.results23 Try.underlying39 rfl rfl rfl; (case q => simp (disch := (first | omega | (simp; done) | (simp; omega))) [*]; try rfl); (case hi => kernel_rfl)
    exact ⟨by simp [endF, hv, zQ], (by repeat' (first | (with_reducible exact Below.refl _ _) | (with_reducible assumption) | (with_reducible refine Below.setCell ?_ ?_ _) | (with_reducible refine Below.alloc ?_ ?_ _) | (with_reducible refine Below.drew ?_) | (with_reducible refine below_drewN ?_ _) | (with_reducible refine Below.trans ?_ (Below.mono (by with_reducible assumption) ?_)) | go_size | (simp at *; omega)))⟩
  · obtain ⟨h1, h2, h3, h4⟩ := wide_s hv
    cases hc : (c == 0)
    · have hc' : c ≠ 0 := by simpa using hc
      have HF : Hid (endF a b c d = plainQ a c) := Lib.hid (by simp [endF, hv, hc])
      go_enter Try.func23, Try.ntmps23
      go_wp2_with (first | (go_at_call 43; refine (validState_any _ _ _ _ _).mono ?_; rintro e w1 ⟨rfl, hb1⟩; obtain ⟨hc1, hf1, -, hB1⟩ := bcell hb1; have hz1 := hb1.size; (try simp at hz1); (try have hk0 : w.heap.size < w1.heap.size := by omega); (try have hk1 : w.heap.size + 1 < w1.heap.size := by omega); (try have hk2 : w.heap.size + 1 + 1 < w1.heap.size := by omega)) | (go_at_call 54; refine (plainOf_any _ _ _ (by omega) (by omega) hc').mono ?_; rintro e w1 ⟨rfl, hb1⟩; obtain ⟨hc1, hf1, -, hB1⟩ := bcell hb1; have hz1 := hb1.size; (try simp at hz1); (try have hk0 : w.heap.size < w1.heap.size := by omega); (try have hk1 : w.heap.size + 1 < w1.heap.size := by omega); (try have hk2 : w.heap.size + 1 + 1 < w1.heap.size := by omega)))
      apply body_row2 (w.heap.size + 1) 39 Try.results23 Try.underlying39 rfl rfl rfl; (case q => simp (disch := (first | omega | (simp; done) | (simp; omega))) [*]; try rfl); (case hi => kernel_rfl)
      exact ⟨by rw [HF.out]; rfl, (by repeat' (first | (with_reducible exact Below.refl _ _) | (with_reducible assumption) | (with_reducible refine Below.setCell ?_ ?_ _) | (with_reducible refine Below.alloc ?_ ?_ _) | (with_reducible refine Below.drew ?_) | (with_reducible refine below_drewN ?_ _) | (with_reducible refine Below.trans ?_ (Below.mono (by with_reducible assumption) ?_)) | go_size | (simp at *; omega)))⟩
    · have HF : Hid (endF a b c d = (zQ, 6)) := Lib.hid (by simp [endF, hv, hc])
      go_enter Try.func23, Try.ntmps23
      go_wp2_with (go_at_call 43; refine (validState_any _ _ _ _ _).mono ?_; rintro e w1 ⟨rfl, hb1⟩; obtain ⟨hc1, hf1, -, hB1⟩ := bcell hb1; have hz1 := hb1.size; (try simp at hz1); (try have hk0 : w.heap.size < w1.heap.size := by omega); (try have hk1 : w.heap.size + 1 < w1.heap.size := by omega); (try have hk2 : w.heap.size + 1 + 1 < w1.heap.size := by omega))
      apply body_row2 (w.heap.size + 1) 39 Try.results23 Try.underlying39 rfl rfl rfl; (case q => simp (disch := (first | omega | (simp; done) | (simp; omega))) [*]; try rfl); (case hi => kernel_rfl)
      exact ⟨by rw [HF.out]; simp [zQ], (by repeat' (first | (with_reducible exact Below.refl _ _) | (with_reducible assumption) | (with_reducible refine Below.setCell ?_ ?_ _) | (with_reducible refine Below.alloc ?_ ?_ _) | (with_reducible refine Below.drew ?_) | (with_reducible refine below_drewN ?_ _) | (with_reducible refine Below.trans ?_ (Below.mono (by with_reducible assumption) ?_)) | go_size | (simp at *; omega)))⟩
theorem sEndState_any (a b c d : Int) (w : World) :
    Calls Try.prog 22 #[.agg #[.int .i64 a, .int .i64 b, .int .i64 c, .int .i64 d]] w fun e w' => e = .returned (.tuple #[.agg #[.int .i64 (endF a b c d).1.n, .int .i64 (endF a b c d).1.d], .int .i64 (endF a b c d).2]) ∧ Below w.heap.size w w' := by
  cases hv : vS a b c d
  · go_enter Try.func22, Try.ntmps22
    go_wp2_with (go_at_call 41; refine (l13Ok_any _ _ _ _ _).mono ?_; rintro e w1 ⟨rfl, hb1⟩; obtain ⟨hc1, hf1, -, hB1⟩ := bcell hb1; have hz1 := hb1.size; (try simp at hz1); (try have hk0 : w.heap.size < w1.heap.size := by omega); (try have hk1 : w.heap.size + 1 < w1.heap.size := by omega); (try have hk2 : w.heap.size + 1 + 1 < w1.heap.size := by omega))
    apply body_row2 (w.heap.size + 1) 39 Try.results22 Try.underlying39 rfl rfl rfl; (case q => simp (disch := (first | omega | (simp; done) | (simp; omega))) [*]; try rfl); (case hi => kernel_rfl)
    exact ⟨by simp [endF, hv, zQ], (by repeat' (first | (with_reducible exact Below.refl _ _) | (with_reducible assumption) | (with_reducible refine Below.setCell ?_ ?_ _) | (with_reducible refine Below.alloc ?_ ?_ _) | (with_reducible refine Below.drew ?_) | (with_reducible refine below_drewN ?_ _) | (with_reducible refine Below.trans ?_ (Below.mono (by with_reducible assumption) ?_)) | go_size | (simp at *; omega)))⟩
  · obtain ⟨h1, h2, h3, h4⟩ := wide_s hv
    cases hc : (c == 0)
    · have hc' : c ≠ 0 := by simpa using hc
      have HF : Hid (endF a b c d = plainQ a c) := Lib.hid (by simp [endF, hv, hc])
      go_enter Try.func22, Try.ntmps22
      go_wp2_with (first | (go_at_call 41; refine (l13Ok_any _ _ _ _ _).mono ?_; rintro e w1 ⟨rfl, hb1⟩; obtain ⟨hc1, hf1, -, hB1⟩ := bcell hb1; have hz1 := hb1.size; (try simp at hz1); (try have hk0 : w.heap.size < w1.heap.size := by omega); (try have hk1 : w.heap.size + 1 < w1.heap.size := by omega); (try have hk2 : w.heap.size + 1 + 1 < w1.heap.size := by omega)) | (go_at_call 53; refine (l02Full_any _ _ _ (by omega) (by omega) hc').mono ?_; rintro e w1 ⟨rfl, hb1⟩; obtain ⟨hc1, hf1, -, hB1⟩ := bcell hb1; have hz1 := hb1.size; (try simp at hz1); (try have hk0 : w.heap.size < w1.heap.size := by omega); (try have hk1 : w.heap.size + 1 < w1.heap.size := by omega); (try have hk2 : w.heap.size + 1 + 1 < w1.heap.size := by omega)))
      apply body_row2 (w.heap.size + 1) 39 Try.results22 Try.underlying39 rfl rfl rfl; (case q => simp (disch := (first | omega | (simp; done) | (simp; omega))) [*]; try rfl); (case hi => kernel_rfl)
      exact ⟨by rw [HF.out]; rfl, (by repeat' (first | (with_reducible exact Below.refl _ _) | (with_reducible assumption) | (with_reducible refine Below.setCell ?_ ?_ _) | (with_reducible refine Below.alloc ?_ ?_ _) | (with_reducible refine Below.drew ?_) | (with_reducible refine below_drewN ?_ _) | (with_reducible refine Below.trans ?_ (Below.mono (by with_reducible assumption) ?_)) | go_size | (simp at *; omega)))⟩
    · have HF : Hid (endF a b c d = (zQ, 6)) := Lib.hid (by simp [endF, hv, hc])
      go_enter Try.func22, Try.ntmps22
      go_wp2_with (go_at_call 41; refine (l13Ok_any _ _ _ _ _).mono ?_; rintro e w1 ⟨rfl, hb1⟩; obtain ⟨hc1, hf1, -, hB1⟩ := bcell hb1; have hz1 := hb1.size; (try simp at hz1); (try have hk0 : w.heap.size < w1.heap.size := by omega); (try have hk1 : w.heap.size + 1 < w1.heap.size := by omega); (try have hk2 : w.heap.size + 1 + 1 < w1.heap.size := by omega))
      apply body_row2 (w.heap.size + 1) 39 Try.results22 Try.underlying39 rfl rfl rfl; (case q => simp (disch := (first | omega | (simp; done) | (simp; omega))) [*]; try rfl); (case hi => kernel_rfl)
      exact ⟨by rw [HF.out]; simp [zQ], (by repeat' (first | (with_reducible exact Below.refl _ _) | (with_reducible assumption) | (with_reducible refine Below.setCell ?_ ?_ _) | (with_reducible refine Below.alloc ?_ ?_ _) | (with_reducible refine Below.drew ?_) | (with_reducible refine below_drewN ?_ _) | (with_reducible refine Below.trans ?_ (Below.mono (by with_reducible assumption) ?_)) | go_size | (simp at *; omega)))⟩
theorem stateAt_any (a b c d n m : Int) (w : World) (b0 : -9223372036854775808 ≤ n ∧ n ≤ 9223372036854775807) (b1 : -9223372036854775808 ≤ m ∧ m ≤ 9223372036854775807) :
    Calls Try.prog 27 #[.agg #[.int .i64 a, .int .i64 b, .int .i64 c, .int .i64 d], .agg #[.int .i64 n, .int .i64 m]] w fun e w' => e = .returned (.tuple #[.agg #[.int .i64 (atF a b c d n m).1.n, .int .i64 (atF a b c d n m).1.d], .int .i64 (atF a b c d n m).2]) ∧ Below w.heap.size w w' := by
  cases hv : vS a b c d
  · have HF : Hid (atF a b c d n m = (zQ, 1)) := Lib.hid (by simp [atF, hv])
    go_enter Try.func27, Try.ntmps27
    go_wp2_with (first | (go_at_call 43; refine (validState_any _ _ _ _ _).mono ?_; rintro e w1 ⟨rfl, hb1⟩; obtain ⟨hc1, hf1, -, hB1⟩ := bcell hb1; have hz1 := hb1.size; (try simp at hz1); (try have hk0 : w.heap.size < w1.heap.size := by omega); (try have hk1 : w.heap.size + 1 < w1.heap.size := by omega); (try have hk2 : w.heap.size + 1 + 1 < w1.heap.size := by omega)) | (go_at_call 56; refine (validFraction_any _ _ _ (by omega) (by omega)).mono ?_; rintro e w1 ⟨rfl, hb1⟩; obtain ⟨hc1, hf1, -, hB1⟩ := bcell hb1; have hz1 := hb1.size; (try simp at hz1); (try have hk0 : w.heap.size < w1.heap.size := by omega); (try have hk1 : w.heap.size + 1 < w1.heap.size := by omega); (try have hk2 : w.heap.size + 1 + 1 < w1.heap.size := by omega)))
    apply body_row2 (w.heap.size + 1 + 1) 39 Try.results27 Try.underlying39 rfl rfl rfl; (case q => simp (disch := (first | omega | (simp; done) | (simp; omega))) [*]; try rfl); (case hi => kernel_rfl)
    exact ⟨by rw [HF.out]; simp [zQ], (by repeat' (first | (with_reducible exact Below.refl _ _) | (with_reducible assumption) | (with_reducible refine Below.setCell ?_ ?_ _) | (with_reducible refine Below.alloc ?_ ?_ _) | (with_reducible refine Below.drew ?_) | (with_reducible refine below_drewN ?_ _) | (with_reducible refine Below.trans ?_ (Below.mono (by with_reducible assumption) ?_)) | go_size | (simp at *; omega)))⟩
  · cases hq : vQ n m
    · have HF : Hid (atF a b c d n m = (zQ, 1)) := Lib.hid (by simp [atF, hq])
      go_enter Try.func27, Try.ntmps27
      go_wp2_with (first | (go_at_call 43; refine (validState_any _ _ _ _ _).mono ?_; rintro e w1 ⟨rfl, hb1⟩; obtain ⟨hc1, hf1, -, hB1⟩ := bcell hb1; have hz1 := hb1.size; (try simp at hz1); (try have hk0 : w.heap.size < w1.heap.size := by omega); (try have hk1 : w.heap.size + 1 < w1.heap.size := by omega); (try have hk2 : w.heap.size + 1 + 1 < w1.heap.size := by omega)) | (go_at_call 56; refine (validFraction_any _ _ _ (by omega) (by omega)).mono ?_; rintro e w1 ⟨rfl, hb1⟩; obtain ⟨hc1, hf1, -, hB1⟩ := bcell hb1; have hz1 := hb1.size; (try simp at hz1); (try have hk0 : w.heap.size < w1.heap.size := by omega); (try have hk1 : w.heap.size + 1 < w1.heap.size := by omega); (try have hk2 : w.heap.size + 1 + 1 < w1.heap.size := by omega)))
      apply body_row2 (w.heap.size + 1 + 1) 39 Try.results27 Try.underlying39 rfl rfl rfl; (case q => simp (disch := (first | omega | (simp; done) | (simp; omega))) [*]; try rfl); (case hi => kernel_rfl)
      exact ⟨by rw [HF.out]; simp [zQ], (by repeat' (first | (with_reducible exact Below.refl _ _) | (with_reducible assumption) | (with_reducible refine Below.setCell ?_ ?_ _) | (with_reducible refine Below.alloc ?_ ?_ _) | (with_reducible refine Below.drew ?_) | (with_reducible refine below_drewN ?_ _) | (with_reducible refine Below.trans ?_ (Below.mono (by with_reducible assumption) ?_)) | go_size | (simp at *; omega)))⟩
    · obtain ⟨h1, h2, h3, h4⟩ := wide_s hv
      obtain ⟨q1, q2, -⟩ := vQ_iff.1 hq
      have q3 : -1000000000 ≤ m ∧ m ≤ 1000000000 := by omega
      have m1 := mul_s h1 q1
      have m2 := mul_s h2 q3
      have m3 := mul_s h3 q1
      have m4 := mul_s h4 q3
      cases hc : (c * n + d * m == 0)
      · have hc' : c * n + d * m ≠ 0 := by simpa using hc
        have HF : Hid (atF a b c d n m = plainQ (a * n + b * m) (c * n + d * m)) := Lib.hid (by simp [atF, hv, hq, hc])
        go_enter Try.func27, Try.ntmps27
        go_wp2_with (first | (go_at_call 43; refine (validState_any _ _ _ _ _).mono ?_; rintro e w1 ⟨rfl, hb1⟩; obtain ⟨hc1, hf1, -, hB1⟩ := bcell hb1; have hz1 := hb1.size; (try simp at hz1); (try have hk0 : w.heap.size < w1.heap.size := by omega); (try have hk1 : w.heap.size + 1 < w1.heap.size := by omega); (try have hk2 : w.heap.size + 1 + 1 < w1.heap.size := by omega)) | (go_at_call 56; refine (validFraction_any _ _ _ (by omega) (by omega)).mono ?_; rintro e w1 ⟨rfl, hb1⟩; obtain ⟨hc1, hf1, -, hB1⟩ := bcell hb1; have hz1 := hb1.size; (try simp at hz1); (try have hk0 : w.heap.size < w1.heap.size := by omega); (try have hk1 : w.heap.size + 1 < w1.heap.size := by omega); (try have hk2 : w.heap.size + 1 + 1 < w1.heap.size := by omega)) | (go_at_call 54; refine (plainOf_any _ _ _ (by omega) (by omega) hc').mono ?_; rintro e w1 ⟨rfl, hb1⟩; obtain ⟨hc1, hf1, -, hB1⟩ := bcell hb1; have hz1 := hb1.size; (try simp at hz1); (try have hk0 : w.heap.size < w1.heap.size := by omega); (try have hk1 : w.heap.size + 1 < w1.heap.size := by omega); (try have hk2 : w.heap.size + 1 + 1 < w1.heap.size := by omega)))
        apply body_row2 (w.heap.size + 1 + 1) 39 Try.results27 Try.underlying39 rfl rfl rfl; (case q => simp (disch := (first | omega | (simp; done) | (simp; omega))) [*]; try rfl); (case hi => kernel_rfl)
        exact ⟨by rw [HF.out]; rfl, (by repeat' (first | (with_reducible exact Below.refl _ _) | (with_reducible assumption) | (with_reducible refine Below.setCell ?_ ?_ _) | (with_reducible refine Below.alloc ?_ ?_ _) | (with_reducible refine Below.drew ?_) | (with_reducible refine below_drewN ?_ _) | (with_reducible refine Below.trans ?_ (Below.mono (by with_reducible assumption) ?_)) | go_size | (simp at *; omega)))⟩
      · have HF : Hid (atF a b c d n m = (zQ, 6)) := Lib.hid (by simp [atF, hv, hq, hc])
        go_enter Try.func27, Try.ntmps27
        go_wp2_with (first | (go_at_call 43; refine (validState_any _ _ _ _ _).mono ?_; rintro e w1 ⟨rfl, hb1⟩; obtain ⟨hc1, hf1, -, hB1⟩ := bcell hb1; have hz1 := hb1.size; (try simp at hz1); (try have hk0 : w.heap.size < w1.heap.size := by omega); (try have hk1 : w.heap.size + 1 < w1.heap.size := by omega); (try have hk2 : w.heap.size + 1 + 1 < w1.heap.size := by omega)) | (go_at_call 56; refine (validFraction_any _ _ _ (by omega) (by omega)).mono ?_; rintro e w1 ⟨rfl, hb1⟩; obtain ⟨hc1, hf1, -, hB1⟩ := bcell hb1; have hz1 := hb1.size; (try simp at hz1); (try have hk0 : w.heap.size < w1.heap.size := by omega); (try have hk1 : w.heap.size + 1 < w1.heap.size := by omega); (try have hk2 : w.heap.size + 1 + 1 < w1.heap.size := by omega)))
        apply body_row2 (w.heap.size + 1 + 1) 39 Try.results27 Try.underlying39 rfl rfl rfl; (case q => simp (disch := (first | omega | (simp; done) | (simp; omega))) [*]; try rfl); (case hi => kernel_rfl)
        exact ⟨by rw [HF.out]; simp [zQ], (by repeat' (first | (with_reducible exact Below.refl _ _) | (with_reducible assumption) | (with_reducible refine Below.setCell ?_ ?_ _) | (with_reducible refine Below.alloc ?_ ?_ _) | (with_reducible refine Below.drew ?_) | (with_reducible refine below_drewN ?_ _) | (with_reducible refine Below.trans ?_ (Below.mono (by with_reducible assumption) ?_)) | go_size | (simp at *; omega)))⟩
theorem sStateAt_any (a b c d n m : Int) (w : World) (b0 : -9223372036854775808 ≤ n ∧ n ≤ 9223372036854775807) (b1 : -9223372036854775808 ≤ m ∧ m ≤ 9223372036854775807) :
    Calls Try.prog 25 #[.agg #[.int .i64 a, .int .i64 b, .int .i64 c, .int .i64 d], .agg #[.int .i64 n, .int .i64 m]] w fun e w' => e = .returned (.tuple #[.agg #[.int .i64 (atF a b c d n m).1.n, .int .i64 (atF a b c d n m).1.d], .int .i64 (atF a b c d n m).2]) ∧ Below w.heap.size w w' := by
  cases hv : vS a b c d
  · have HF : Hid (atF a b c d n m = (zQ, 1)) := Lib.hid (by simp [atF, hv])
    go_enter Try.func25, Try.ntmps25
    go_wp2_with (first | (go_at_call 41; refine (l13Ok_any _ _ _ _ _).mono ?_; rintro e w1 ⟨rfl, hb1⟩; obtain ⟨hc1, hf1, -, hB1⟩ := bcell hb1; have hz1 := hb1.size; (try simp at hz1); (try have hk0 : w.heap.size < w1.heap.size := by omega); (try have hk1 : w.heap.size + 1 < w1.heap.size := by omega); (try have hk2 : w.heap.size + 1 + 1 < w1.heap.size := by omega)) | (go_at_call 55; refine (l02Ok_any _ _ _ (by omega) (by omega)).mono ?_; rintro e w1 ⟨rfl, hb1⟩; obtain ⟨hc1, hf1, -, hB1⟩ := bcell hb1; have hz1 := hb1.size; (try simp at hz1); (try have hk0 : w.heap.size < w1.heap.size := by omega); (try have hk1 : w.heap.size + 1 < w1.heap.size := by omega); (try have hk2 : w.heap.size + 1 + 1 < w1.heap.size := by omega)))
    apply body_row2 (w.heap.size + 1 + 1) 39 Try.results25 Try.underlying39 rfl rfl rfl; (case q => simp (disch := (first | omega | (simp; done) | (simp; omega))) [*]; try rfl); (case hi => kernel_rfl)
    exact ⟨by rw [HF.out]; simp [zQ], (by repeat' (first | (with_reducible exact Below.refl _ _) | (with_reducible assumption) | (with_reducible refine Below.setCell ?_ ?_ _) | (with_reducible refine Below.alloc ?_ ?_ _) | (with_reducible refine Below.drew ?_) | (with_reducible refine below_drewN ?_ _) | (with_reducible refine Below.trans ?_ (Below.mono (by with_reducible assumption) ?_)) | go_size | (simp at *; omega)))⟩
  · cases hq : vQ n m
    · have HF : Hid (atF a b c d n m = (zQ, 1)) := Lib.hid (by simp [atF, hq])
      go_enter Try.func25, Try.ntmps25
      go_wp2_with (first | (go_at_call 41; refine (l13Ok_any _ _ _ _ _).mono ?_; rintro e w1 ⟨rfl, hb1⟩; obtain ⟨hc1, hf1, -, hB1⟩ := bcell hb1; have hz1 := hb1.size; (try simp at hz1); (try have hk0 : w.heap.size < w1.heap.size := by omega); (try have hk1 : w.heap.size + 1 < w1.heap.size := by omega); (try have hk2 : w.heap.size + 1 + 1 < w1.heap.size := by omega)) | (go_at_call 55; refine (l02Ok_any _ _ _ (by omega) (by omega)).mono ?_; rintro e w1 ⟨rfl, hb1⟩; obtain ⟨hc1, hf1, -, hB1⟩ := bcell hb1; have hz1 := hb1.size; (try simp at hz1); (try have hk0 : w.heap.size < w1.heap.size := by omega); (try have hk1 : w.heap.size + 1 < w1.heap.size := by omega); (try have hk2 : w.heap.size + 1 + 1 < w1.heap.size := by omega)))
      apply body_row2 (w.heap.size + 1 + 1) 39 Try.results25 Try.underlying39 rfl rfl rfl; (case q => simp (disch := (first | omega | (simp; done) | (simp; omega))) [*]; try rfl); (case hi => kernel_rfl)
      exact ⟨by rw [HF.out]; simp [zQ], (by repeat' (first | (with_reducible exact Below.refl _ _) | (with_reducible assumption) | (with_reducible refine Below.setCell ?_ ?_ _) | (with_reducible refine Below.alloc ?_ ?_ _) | (with_reducible refine Below.drew ?_) | (with_reducible refine below_drewN ?_ _) | (with_reducible refine Below.trans ?_ (Below.mono (by with_reducible assumption) ?_)) | go_size | (simp at *; omega)))⟩
    · obtain ⟨h1, h2, h3, h4⟩ := wide_s hv
      obtain ⟨q1, q2, -⟩ := vQ_iff.1 hq
      have q3 : -1000000000 ≤ m ∧ m ≤ 1000000000 := by omega
      have m1 := mul_s h1 q1
      have m2 := mul_s h2 q3
      have m3 := mul_s h3 q1
      have m4 := mul_s h4 q3
      cases hc : (c * n + d * m == 0)
      · have hc' : c * n + d * m ≠ 0 := by simpa using hc
        have HF : Hid (atF a b c d n m = plainQ (a * n + b * m) (c * n + d * m)) := Lib.hid (by simp [atF, hv, hq, hc])
        go_enter Try.func25, Try.ntmps25
        go_wp2_with (first | (go_at_call 41; refine (l13Ok_any _ _ _ _ _).mono ?_; rintro e w1 ⟨rfl, hb1⟩; obtain ⟨hc1, hf1, -, hB1⟩ := bcell hb1; have hz1 := hb1.size; (try simp at hz1); (try have hk0 : w.heap.size < w1.heap.size := by omega); (try have hk1 : w.heap.size + 1 < w1.heap.size := by omega); (try have hk2 : w.heap.size + 1 + 1 < w1.heap.size := by omega)) | (go_at_call 55; refine (l02Ok_any _ _ _ (by omega) (by omega)).mono ?_; rintro e w1 ⟨rfl, hb1⟩; obtain ⟨hc1, hf1, -, hB1⟩ := bcell hb1; have hz1 := hb1.size; (try simp at hz1); (try have hk0 : w.heap.size < w1.heap.size := by omega); (try have hk1 : w.heap.size + 1 < w1.heap.size := by omega); (try have hk2 : w.heap.size + 1 + 1 < w1.heap.size := by omega)) | (go_at_call 53; refine (l02Full_any _ _ _ (by omega) (by omega) hc').mono ?_; rintro e w1 ⟨rfl, hb1⟩; obtain ⟨hc1, hf1, -, hB1⟩ := bcell hb1; have hz1 := hb1.size; (try simp at hz1); (try have hk0 : w.heap.size < w1.heap.size := by omega); (try have hk1 : w.heap.size + 1 < w1.heap.size := by omega); (try have hk2 : w.heap.size + 1 + 1 < w1.heap.size := by omega)))
        apply body_row2 (w.heap.size + 1 + 1) 39 Try.results25 Try.underlying39 rfl rfl rfl; (case q => simp (disch := (first | omega | (simp; done) | (simp; omega))) [*]; try rfl); (case hi => kernel_rfl)
        exact ⟨by rw [HF.out]; rfl, (by repeat' (first | (with_reducible exact Below.refl _ _) | (with_reducible assumption) | (with_reducible refine Below.setCell ?_ ?_ _) | (with_reducible refine Below.alloc ?_ ?_ _) | (with_reducible refine Below.drew ?_) | (with_reducible refine below_drewN ?_ _) | (with_reducible refine Below.trans ?_ (Below.mono (by with_reducible assumption) ?_)) | go_size | (simp at *; omega)))⟩
      · have HF : Hid (atF a b c d n m = (zQ, 6)) := Lib.hid (by simp [atF, hv, hq, hc])
        go_enter Try.func25, Try.ntmps25
        go_wp2_with (first | (go_at_call 41; refine (l13Ok_any _ _ _ _ _).mono ?_; rintro e w1 ⟨rfl, hb1⟩; obtain ⟨hc1, hf1, -, hB1⟩ := bcell hb1; have hz1 := hb1.size; (try simp at hz1); (try have hk0 : w.heap.size < w1.heap.size := by omega); (try have hk1 : w.heap.size + 1 < w1.heap.size := by omega); (try have hk2 : w.heap.size + 1 + 1 < w1.heap.size := by omega)) | (go_at_call 55; refine (l02Ok_any _ _ _ (by omega) (by omega)).mono ?_; rintro e w1 ⟨rfl, hb1⟩; obtain ⟨hc1, hf1, -, hB1⟩ := bcell hb1; have hz1 := hb1.size; (try simp at hz1); (try have hk0 : w.heap.size < w1.heap.size := by omega); (try have hk1 : w.heap.size + 1 < w1.heap.size := by omega); (try have hk2 : w.heap.size + 1 + 1 < w1.heap.size := by omega)))
        apply body_row2 (w.heap.size + 1 + 1) 39 Try.results25 Try.underlying39 rfl rfl rfl; (case q => simp (disch := (first | omega | (simp; done) | (simp; omega))) [*]; try rfl); (case hi => kernel_rfl)
        exact ⟨by rw [HF.out]; simp [zQ], (by repeat' (first | (with_reducible exact Below.refl _ _) | (with_reducible assumption) | (with_reducible refine Below.setCell ?_ ?_ _) | (with_reducible refine Below.alloc ?_ ?_ _) | (with_reducible refine Below.drew ?_) | (with_reducible refine below_drewN ?_ _) | (with_reducible refine Below.trans ?_ (Below.mono (by with_reducible assumption) ?_)) | go_size | (simp at *; omega)))⟩
/-- The term that a state knows. -/
def knF (a b c d : Int) : Int × Bool := if c = 0 ∨ c + d = 0 ∨ (decide (c < 0) != decide (c + d < 0)) = true then (0, false) else (fl a c, fl (a + b) (c + d) == fl a c)
def emitF (a b c d : Int) : Int × St × Int :=
  if vS a b c d = true then (if (knF a b c d).2 = true then (if bS c d (a - (knF a b c d).1 * c) (b - (knF a b c d).1 * d) = true then ((knF a b c d).1, ⟨c, d, a - (knF a b c d).1 * c, b - (knF a b c d).1 * d⟩, 0) else (0, zS, 5)) else (0, zS, 10)) else (0, zS, 1)
theorem knF_bound {a b c d : Int} (h : (-1000000000 ≤ a ∧ a ≤ 1000000000)) (hk : (knF a b c d).2 = true) : -1000000000 ≤ (knF a b c d).1 ∧ (knF a b c d).1 ≤ 1000000000 := by
  unfold knF at *
  split at hk
  · simp at hk
  · rename_i hn
    rw [if_neg hn]
    have h0 : c ≠ 0 := fun e => hn (.inl e)
    have := fl_bound (a := a) h0
    have hab : ab a ≤ 1000000000 := by unfold ab; omega
    simp only
    omega
theorem emit_vS {a b c d q : Int} (h : vS a b c d = true) : vS c d (a - q * c) (b - q * d) = bS c d (a - q * c) (b - q * d) := by
  have hd : a * d ≠ b * c := by simp only [vS, Bool.and_eq_true, bne_iff_ne] at h; exact h.2
  have : (c * (b - q * d) != d * (a - q * c)) = true := by
    rw [bne_iff_ne, Int.mul_sub, Int.mul_sub]
    intro e
    apply hd
    have e1 : c * (q * d) = d * (q * c) := by rw [Int.mul_comm q d, Int.mul_comm q c, ← Int.mul_assoc, ← Int.mul_assoc, Int.mul_comm c d]
    rw [Int.mul_comm a d, Int.mul_comm b c]
    omega
  simp [vS, this]
theorem knownOf_any (a b c d : Int) (w : World) (h1 : -1000000000 ≤ a ∧ a ≤ 1000000000) (h2 : -1000000000 ≤ b ∧ b ≤ 1000000000) (h3 : -1000000000 ≤ c ∧ c ≤ 1000000000) (h4 : -1000000000 ≤ d ∧ d ≤ 1000000000) :
    Calls Try.prog 84 #[.int .i64 a, .int .i64 b, .int .i64 c, .int .i64 d] w fun e w' => e = .returned (.tuple #[.int .i64 (knF a b c d).1, .bool (knF a b c d).2]) ∧ w = w' := by
  by_cases hc : c = 0
  · have HF : Hid (knF a b c d = (0, false)) := Lib.hid (by unfold knF; rw [if_pos (.inl hc)])
    have hc1 : (c == 0) = true := by simp [hc]
    have HC := Lib.hid hc
    clear hc
    go_enter Try.func84, Try.ntmps84
    go_wp2
    all_goals
      go_ret2
      exact ⟨by rw [HF.out]; rfl, rfl⟩
  · by_cases he : c + d = 0
    · have HF : Hid (knF a b c d = (0, false)) := Lib.hid (by unfold knF; rw [if_pos (.inr (.inl he))])
      have hc1 : (c == 0) = false := by simp [hc]
      have he1 : (c + d == 0) = true := by simp [he]
      have HE := Lib.hid he
      clear he
      go_enter Try.func84, Try.ntmps84
      go_wp2
      all_goals
        go_ret2
        exact ⟨by rw [HF.out]; rfl, rfl⟩
    · have hc1 : (c == 0) = false := by simp [hc]
      have he1 : (c + d == 0) = false := by simp [he]
      rcases Int.lt_or_le c 0 with s1 | s1
      · rcases Int.lt_or_le (c + d) 0 with s2 | s2
        · have HF : Hid (knF a b c d = (fl a c, fl (a + b) (c + d) == fl a c)) := Lib.hid (by unfold knF; rw [if_neg]; intro h; rcases h with h | h | h; exact hc h; exact he h; simp [s1, s2] at h)
          have g1 : ¬ 0 < c := by omega
          have g2 : ¬ 0 < c + d := by omega
          have hbd := fl_bound (a := a) hc
          have hab : ab a ≤ 1000000000 := by unfold ab; omega
          go_enter Try.func84, Try.ntmps84
          go_wp2_with (go_at_call 87; refine (floorDiv_any _ _ _ (by omega) (by omega) (by omega)).mono ?_; rintro e w1 ⟨rfl, rfl⟩)
          all_goals
            go_ret2
            exact ⟨by rw [HF.out]; rfl, rfl⟩
        · have HF : Hid (knF a b c d = (0, false)) := Lib.hid (by unfold knF; rw [if_pos (.inr (.inr (by simp [s1]; omega)))])
          have g1 : ¬ 0 < c := by omega
          have g2 : 0 < c + d := by omega
          have g3 : ¬ c + d < 0 := by omega
          go_enter Try.func84, Try.ntmps84
          go_wp2
          all_goals
            go_ret2
            exact ⟨by rw [HF.out]; rfl, rfl⟩
      · rcases Int.lt_or_le (c + d) 0 with s2 | s2
        · have HF : Hid (knF a b c d = (0, false)) := Lib.hid (by unfold knF; rw [if_pos (.inr (.inr (by simp [s2]; omega)))])
          have g1 : 0 < c := by omega
          have g2 : ¬ 0 < c + d := by omega
          have g3 : ¬ c < 0 := by omega
          go_enter Try.func84, Try.ntmps84
          go_wp2
          all_goals
            go_ret2
            exact ⟨by rw [HF.out]; rfl, rfl⟩
        · have HF : Hid (knF a b c d = (fl a c, fl (a + b) (c + d) == fl a c)) := Lib.hid (by unfold knF; rw [if_neg]; intro h; rcases h with h | h | h; exact hc h; exact he h; simp at h; omega)
          have g1 : 0 < c := by omega
          have g2 : 0 < c + d := by omega
          have g3 : ¬ c < 0 := by omega
          have g4 : ¬ c + d < 0 := by omega
          have hbd := fl_bound (a := a) hc
          have hab : ab a ≤ 1000000000 := by unfold ab; omega
          go_enter Try.func84, Try.ntmps84
          go_wp2_with (go_at_call 87; refine (floorDiv_any _ _ _ (by omega) (by omega) (by omega)).mono ?_; rintro e w1 ⟨rfl, rfl⟩)
          all_goals
            go_ret2
            exact ⟨by rw [HF.out]; rfl, rfl⟩
theorem l13Know_any (a b c d : Int) (w : World) (h1 : -1000000000 ≤ a ∧ a ≤ 1000000000) (h2 : -1000000000 ≤ b ∧ b ≤ 1000000000) (h3 : -1000000000 ≤ c ∧ c ≤ 1000000000) (h4 : -1000000000 ≤ d ∧ d ≤ 1000000000) :
    Calls Try.prog 57 #[.agg #[.int .i64 a, .int .i64 b, .int .i64 c, .int .i64 d]] w fun e w' => e = .returned (.tuple #[.int .i64 (knF a b c d).1, .bool (knF a b c d).2]) ∧ Below w.heap.size w w' := by
  by_cases hc : c = 0
  · have HF : Hid (knF a b c d = (0, false)) := Lib.hid (by unfold knF; rw [if_pos (.inl hc)])
    have hc1 : (c == 0) = true := by simp [hc]
    have HC := Lib.hid hc
    clear hc
    go_enter Try.func57, Try.ntmps57
    go_wp2
    all_goals
      go_ret2
      exact ⟨by rw [HF.out]; rfl, (by repeat' (first | (with_reducible exact Below.refl _ _) | (with_reducible assumption) | (with_reducible refine Below.setCell ?_ ?_ _) | (with_reducible refine Below.alloc ?_ ?_ _) | (with_reducible refine Below.drew ?_) | (with_reducible refine below_drewN ?_ _) | (with_reducible refine Below.trans ?_ (Below.mono (by with_reducible assumption) ?_)) | go_size | (simp at *; omega)))⟩
  · by_cases he : c + d = 0
    · have HF : Hid (knF a b c d = (0, false)) := Lib.hid (by unfold knF; rw [if_pos (.inr (.inl he))])
      have hc1 : (c == 0) = false := by simp [hc]
      have he1 : (c + d == 0) = true := by simp [he]
      have HE := Lib.hid he
      clear he
      go_enter Try.func57, Try.ntmps57
      go_wp2
      all_goals
        go_ret2
        exact ⟨by rw [HF.out]; rfl, (by repeat' (first | (with_reducible exact Below.refl _ _) | (with_reducible assumption) | (with_reducible refine Below.setCell ?_ ?_ _) | (with_reducible refine Below.alloc ?_ ?_ _) | (with_reducible refine Below.drew ?_) | (with_reducible refine below_drewN ?_ _) | (with_reducible refine Below.trans ?_ (Below.mono (by with_reducible assumption) ?_)) | go_size | (simp at *; omega)))⟩
    · have hc1 : (c == 0) = false := by simp [hc]
      have he1 : (c + d == 0) = false := by simp [he]
      rcases Int.lt_or_le c 0 with s1 | s1
      · rcases Int.lt_or_le (c + d) 0 with s2 | s2
        · have HF : Hid (knF a b c d = (fl a c, fl (a + b) (c + d) == fl a c)) := Lib.hid (by unfold knF; rw [if_neg]; intro h; rcases h with h | h | h; exact hc h; exact he h; simp [s1, s2] at h)
          have g1 : ¬ 0 < c := by omega
          have g2 : ¬ 0 < c + d := by omega
          have hbd := fl_bound (a := a) hc
          have hab : ab a ≤ 1000000000 := by unfold ab; omega
          go_enter Try.func57, Try.ntmps57
          go_wp2_with (go_at_call 82; refine (l13Div_any _ _ _ (by omega) (by omega) (by omega)).mono ?_; rintro e w1 ⟨rfl, rfl⟩)
          all_goals
            go_ret2
            exact ⟨by rw [HF.out]; simp [Bool.beq_comm], (by repeat' (first | (with_reducible exact Below.refl _ _) | (with_reducible assumption) | (with_reducible refine Below.setCell ?_ ?_ _) | (with_reducible refine Below.alloc ?_ ?_ _) | (with_reducible refine Below.drew ?_) | (with_reducible refine below_drewN ?_ _) | (with_reducible refine Below.trans ?_ (Below.mono (by with_reducible assumption) ?_)) | go_size | (simp at *; omega)))⟩
        · have HF : Hid (knF a b c d = (0, false)) := Lib.hid (by unfold knF; rw [if_pos (.inr (.inr (by simp [s1]; omega)))])
          have g1 : ¬ 0 < c := by omega
          have g2 : 0 < c + d := by omega
          have g3 : ¬ c + d < 0 := by omega
          go_enter Try.func57, Try.ntmps57
          go_wp2
          all_goals
            go_ret2
            exact ⟨by rw [HF.out]; rfl, (by repeat' (first | (with_reducible exact Below.refl _ _) | (with_reducible assumption) | (with_reducible refine Below.setCell ?_ ?_ _) | (with_reducible refine Below.alloc ?_ ?_ _) | (with_reducible refine Below.drew ?_) | (with_reducible refine below_drewN ?_ _) | (with_reducible refine Below.trans ?_ (Below.mono (by with_reducible assumption) ?_)) | go_size | (simp at *; omega)))⟩
      · rcases Int.lt_or_le (c + d) 0 with s2 | s2
        · have HF : Hid (knF a b c d = (0, false)) := Lib.hid (by unfold knF; rw [if_pos (.inr (.inr (by simp [s2]; omega)))])
          have g1 : 0 < c := by omega
          have g2 : ¬ 0 < c + d := by omega
          have g3 : ¬ c < 0 := by omega
          go_enter Try.func57, Try.ntmps57
          go_wp2
          all_goals
            go_ret2
            exact ⟨by rw [HF.out]; rfl, (by repeat' (first | (with_reducible exact Below.refl _ _) | (with_reducible assumption) | (with_reducible refine Below.setCell ?_ ?_ _) | (with_reducible refine Below.alloc ?_ ?_ _) | (with_reducible refine Below.drew ?_) | (with_reducible refine below_drewN ?_ _) | (with_reducible refine Below.trans ?_ (Below.mono (by with_reducible assumption) ?_)) | go_size | (simp at *; omega)))⟩
        · have HF : Hid (knF a b c d = (fl a c, fl (a + b) (c + d) == fl a c)) := Lib.hid (by unfold knF; rw [if_neg]; intro h; rcases h with h | h | h; exact hc h; exact he h; simp at h; omega)
          have g1 : 0 < c := by omega
          have g2 : 0 < c + d := by omega
          have g3 : ¬ c < 0 := by omega
          have g4 : ¬ c + d < 0 := by omega
          have hbd := fl_bound (a := a) hc
          have hab : ab a ≤ 1000000000 := by unfold ab; omega
          go_enter Try.func57, Try.ntmps57
          go_wp2_with (go_at_call 82; refine (l13Div_any _ _ _ (by omega) (by omega) (by omega)).mono ?_; rintro e w1 ⟨rfl, rfl⟩)
          all_goals
            go_ret2
            exact ⟨by rw [HF.out]; simp [Bool.beq_comm], (by repeat' (first | (with_reducible exact Below.refl _ _) | (with_reducible assumption) | (with_reducible refine Below.setCell ?_ ?_ _) | (with_reducible refine Below.alloc ?_ ?_ _) | (with_reducible refine Below.drew ?_) | (with_reducible refine below_drewN ?_ _) | (with_reducible refine Below.trans ?_ (Below.mono (by with_reducible assumption) ?_)) | go_size | (simp at *; omega)))⟩
theorem known_any (a b c d : Int) (w : World) (h1 : -1000000000 ≤ a ∧ a ≤ 1000000000) (h2 : -1000000000 ≤ b ∧ b ≤ 1000000000) (h3 : -1000000000 ≤ c ∧ c ≤ 1000000000) (h4 : -1000000000 ≤ d ∧ d ≤ 1000000000) :
    Calls Try.prog 59 #[.agg #[.int .i64 a, .int .i64 b, .int .i64 c, .int .i64 d]] w fun e w' => e = .returned (.tuple #[.int .i64 (knF a b c d).1, .bool (knF a b c d).2]) ∧ Below w.heap.size w w' := by
  go_enter Try.func59, Try.ntmps59
  go_wp2_with (go_at_call 84; refine (knownOf_any _ _ _ _ _ h1 h2 h3 h4).mono ?_; rintro e w1 ⟨rfl, rfl⟩)
  go_ret2
  exact ⟨rfl, (by repeat' (first | (with_reducible exact Below.refl _ _) | (with_reducible assumption) | (with_reducible refine Below.setCell ?_ ?_ _) | (with_reducible refine Below.alloc ?_ ?_ _) | (with_reducible refine Below.drew ?_) | (with_reducible refine below_drewN ?_ _) | (with_reducible refine Below.trans ?_ (Below.mono (by with_reducible assumption) ?_)) | go_size | (simp at *; omega)))⟩
theorem big_div {q c : Int} (hq : 1 ≤ ab q ∧ ab q ≤ 1000000000) (hc : ab c ≤ 1000000000) : ab c ≤ 1000000000000000000 / ab q := by
  rw [Int.le_ediv_iff_mul_le (by omega)]
  have : ab c * ab q ≤ 1000000000 * 1000000000 := Int.mul_le_mul hc hq.2 (by omega) (by omega)
  omega
theorem l08Big_yes (q c : Int) (w : World) (hq : -1000000000 ≤ q ∧ q ≤ 1000000000) (hc : -1000000000 ≤ c ∧ c ≤ 1000000000) :
    Calls Try.prog 83 #[.int .i64 q, .int .i64 c] w fun e w' => e = .returned (.bool true) ∧ w = w' := by
  by_cases h0 : q = 0
  · subst h0
    go_enter Try.func83, Try.ntmps83
    go_wp2
    go_ret
    exact ⟨rfl, rfl⟩
  · have h1 : (q == 0) = false := by simp [h0]
    have a1 : 1 ≤ ab q := by unfold ab; omega
    have a2 : ab q ≤ 1000000000 := by unfold ab; omega
    have c1 : ab c ≤ 1000000000 := by unfold ab; omega
    have h2 := big_div ⟨a1, a2⟩ c1
    clear h0
    go_enter Try.func83, Try.ntmps83
    go_wp2_with (go_at_call 75; refine (size_any _ _ (by omega)).mono ?_; rintro e w1 ⟨rfl, rfl⟩)
    go_ret
    exact ⟨by simp, rfl⟩
theorem emitted_any (a b c d q : Int) (w : World) (h1 : -1000000000 ≤ a ∧ a ≤ 1000000000) (h2 : -1000000000 ≤ b ∧ b ≤ 1000000000) (m1 : -1000000000000000000 ≤ q * c ∧ q * c ≤ 1000000000000000000) (m2 : -1000000000000000000 ≤ q * d ∧ q * d ≤ 1000000000000000000) :
    Calls Try.prog 60 #[.agg #[.int .i64 a, .int .i64 b, .int .i64 c, .int .i64 d], .int .i64 q] w fun e w' => e = .returned (.agg #[.int .i64 c, .int .i64 d, .int .i64 (a - q * c), .int .i64 (b - q * d)]) ∧ Below w.heap.size w w' := by
  go_enter Try.func60, Try.ntmps60
  go_wp2
  go_returns
  exact ⟨rfl, (by repeat' (first | (with_reducible exact Below.refl _ _) | (with_reducible assumption) | (with_reducible refine Below.setCell ?_ ?_ _) | (with_reducible refine Below.alloc ?_ ?_ _) | (with_reducible refine Below.drew ?_) | (with_reducible refine below_drewN ?_ _) | (with_reducible refine Below.trans ?_ (Below.mono (by with_reducible assumption) ?_)) | go_size | (simp at *; omega)))⟩
end Go.Proofs.Ytfnjboaocalidaa
