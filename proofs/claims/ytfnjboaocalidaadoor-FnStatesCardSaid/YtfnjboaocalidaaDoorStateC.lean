/- States and fractions: values of a state, terms that are emitted, joined states; both packages. -/
import Derived.Test.YtfnjboaocalidaaDoorState
import Derived.Test.YtfnjboaocalidaaDoorFrac
namespace Go.Proofs.YtfnjboaocalidaaDoor
open Go.ChangeShapes Go.WideShapes Go.ChangeAt Go.RowKit
set_option linter.unusedVariables false
set_option maxHeartbeats 1000000

def zQ : Fr := ⟨0, 0⟩
def endF (a b c d : Int) : Fr × Int := if vS a b c d = true then (if (c == 0) = true then (zQ, 6) else plainQ a c) else (zQ, 1)
def atF (a b c d n e : Int) : Fr × Int := if vS a b c d = true ∧ vQ n e = true then (if (c * n + d * e == 0) = true then (zQ, 6) else plainQ (a * n + b * e) (c * n + d * e)) else (zQ, 1)
theorem wide_s {a b c d : Int} (h : vS a b c d = true) : (-1000000000 ≤ a ∧ a ≤ 1000000000) ∧ (-1000000000 ≤ b ∧ b ≤ 1000000000) ∧ (-1000000000 ≤ c ∧ c ≤ 1000000000) ∧ (-1000000000 ≤ d ∧ d ≤ 1000000000) := by
  simp only [vS, Bool.and_eq_true] at h; exact bS_iff.1 h.1
theorem stateAt_any (a b c d n m : Int) (w : World) (b0 : -9223372036854775808 ≤ n ∧ n ≤ 9223372036854775807) (b1 : -9223372036854775808 ≤ m ∧ m ≤ 9223372036854775807) :
    Calls Tryd.prog 15 #[.agg #[.int .i64 a, .int .i64 b, .int .i64 c, .int .i64 d], .agg #[.int .i64 n, .int .i64 m]] w fun e w' => e = .returned (.tuple #[.agg #[.int .i64 (atF a b c d n m).1.n, .int .i64 (atF a b c d n m).1.d], .int .i64 (atF a b c d n m).2]) ∧ Below w.heap.size w w' := by
  cases hv : vS a b c d
  · have HF : Hid (atF a b c d n m = (zQ, 1)) := Lib.hid (by simp [atF, hv])
    go_enter Tryd.func15, Tryd.ntmps15
    go_wp2_with (first | (go_at_call 22; refine (validState_any _ _ _ _ _).mono ?_; rintro e w1 ⟨rfl, hb1⟩; obtain ⟨hc1, hf1, -, hB1⟩ := bcell hb1; have hz1 := hb1.size; (try simp at hz1); (try have hk0 : w.heap.size < w1.heap.size := by omega); (try have hk1 : w.heap.size + 1 < w1.heap.size := by omega); (try have hk2 : w.heap.size + 1 + 1 < w1.heap.size := by omega)) | (go_at_call 32; refine (validFraction_any _ _ _ (by omega) (by omega)).mono ?_; rintro e w1 ⟨rfl, hb1⟩; obtain ⟨hc1, hf1, -, hB1⟩ := bcell hb1; have hz1 := hb1.size; (try simp at hz1); (try have hk0 : w.heap.size < w1.heap.size := by omega); (try have hk1 : w.heap.size + 1 < w1.heap.size := by omega); (try have hk2 : w.heap.size + 1 + 1 < w1.heap.size := by omega)))
    apply body_row2 (w.heap.size + 1 + 1) 32 Tryd.results15 Tryd.underlying32 rfl rfl rfl; (case q => simp (disch := (first | omega | (simp; done) | (simp; omega))) [*]; try rfl); (case hi => kernel_rfl)
    exact ⟨by rw [HF.out]; simp [zQ], (by repeat' (first | (with_reducible exact Below.refl _ _) | (with_reducible assumption) | (with_reducible refine Below.setCell ?_ ?_ _) | (with_reducible refine Below.alloc ?_ ?_ _) | (with_reducible refine Below.drew ?_) | (with_reducible refine below_drewN ?_ _) | (with_reducible refine Below.trans ?_ (Below.mono (by with_reducible assumption) ?_)) | go_size | (simp at *; omega)))⟩
  · cases hq : vQ n m
    · have HF : Hid (atF a b c d n m = (zQ, 1)) := Lib.hid (by simp [atF, hq])
      go_enter Tryd.func15, Tryd.ntmps15
      go_wp2_with (first | (go_at_call 22; refine (validState_any _ _ _ _ _).mono ?_; rintro e w1 ⟨rfl, hb1⟩; obtain ⟨hc1, hf1, -, hB1⟩ := bcell hb1; have hz1 := hb1.size; (try simp at hz1); (try have hk0 : w.heap.size < w1.heap.size := by omega); (try have hk1 : w.heap.size + 1 < w1.heap.size := by omega); (try have hk2 : w.heap.size + 1 + 1 < w1.heap.size := by omega)) | (go_at_call 32; refine (validFraction_any _ _ _ (by omega) (by omega)).mono ?_; rintro e w1 ⟨rfl, hb1⟩; obtain ⟨hc1, hf1, -, hB1⟩ := bcell hb1; have hz1 := hb1.size; (try simp at hz1); (try have hk0 : w.heap.size < w1.heap.size := by omega); (try have hk1 : w.heap.size + 1 < w1.heap.size := by omega); (try have hk2 : w.heap.size + 1 + 1 < w1.heap.size := by omega)))
      apply body_row2 (w.heap.size + 1 + 1) 32 Tryd.results15 Tryd.underlying32 rfl rfl rfl; (case q => simp (disch := (first | omega | (simp; done) | (simp; omega))) [*]; try rfl); (case hi => kernel_rfl)
      exact ⟨by rw [HF.out]; simp [zQ], (by repeat' (first | (with_reducible exact Below.refl _ _) | (with_reducible assumption) | (with_reducible refine Below.setCell ?_ ?_ _) | (with_reducible refine Below.alloc ?_ ?_ _) | (with_reducible refine Below.drew ?_) | (with_reducible refine below_drewN ?_ _) | (with_reducible refine Below.trans ?_ (Below.mono (by with_reducible assumption) ?_)) | go_size | (simp at *; omega)))⟩
    · obtain ⟨h1, h2, h3, h4⟩ := wide_s hv
      obtain ⟨q1, q2, -⟩ := vQ_iff.1 hq
      have q3 : -1000000000 ≤ m ∧ m ≤ 1000000000 := by omega
      have m1 := mul_s h1 q1
      have m2 := mul_s h2 q3
      have m3 := mul_s h3 q1
      have m4 := mul_s h4 q3
      cases hc : (c * n + d * m == 0)
      · have hc' : c * n + d * m ≠ 0 := by simpa using hc
        have HF : Hid (atF a b c d n m = plainQ (a * n + b * m) (c * n + d * m)) := Lib.hid (by simp [atF, hv, hq, hc])
        go_enter Tryd.func15, Tryd.ntmps15
        go_wp2_with (first | (go_at_call 22; refine (validState_any _ _ _ _ _).mono ?_; rintro e w1 ⟨rfl, hb1⟩; obtain ⟨hc1, hf1, -, hB1⟩ := bcell hb1; have hz1 := hb1.size; (try simp at hz1); (try have hk0 : w.heap.size < w1.heap.size := by omega); (try have hk1 : w.heap.size + 1 < w1.heap.size := by omega); (try have hk2 : w.heap.size + 1 + 1 < w1.heap.size := by omega)) | (go_at_call 32; refine (validFraction_any _ _ _ (by omega) (by omega)).mono ?_; rintro e w1 ⟨rfl, hb1⟩; obtain ⟨hc1, hf1, -, hB1⟩ := bcell hb1; have hz1 := hb1.size; (try simp at hz1); (try have hk0 : w.heap.size < w1.heap.size := by omega); (try have hk1 : w.heap.size + 1 < w1.heap.size := by omega); (try have hk2 : w.heap.size + 1 + 1 < w1.heap.size := by omega)) | (go_at_call 33; refine (plainOf_any _ _ _ (by omega) (by omega) hc').mono ?_; rintro e w1 ⟨rfl, hb1⟩; obtain ⟨hc1, hf1, -, hB1⟩ := bcell hb1; have hz1 := hb1.size; (try simp at hz1); (try have hk0 : w.heap.size < w1.heap.size := by omega); (try have hk1 : w.heap.size + 1 < w1.heap.size := by omega); (try have hk2 : w.heap.size + 1 + 1 < w1.heap.size := by omega)))
        apply body_row2 (w.heap.size + 1 + 1) 32 Tryd.results15 Tryd.underlying32 rfl rfl rfl; (case q => simp (disch := (first | omega | (simp; done) | (simp; omega))) [*]; try rfl); (case hi => kernel_rfl)
        exact ⟨by rw [HF.out]; rfl, (by repeat' (first | (with_reducible exact Below.refl _ _) | (with_reducible assumption) | (with_reducible refine Below.setCell ?_ ?_ _) | (with_reducible refine Below.alloc ?_ ?_ _) | (with_reducible refine Below.drew ?_) | (with_reducible refine below_drewN ?_ _) | (with_reducible refine Below.trans ?_ (Below.mono (by with_reducible assumption) ?_)) | go_size | (simp at *; omega)))⟩
      · have HF : Hid (atF a b c d n m = (zQ, 6)) := Lib.hid (by simp [atF, hv, hq, hc])
        go_enter Tryd.func15, Tryd.ntmps15
        go_wp2_with (first | (go_at_call 22; refine (validState_any _ _ _ _ _).mono ?_; rintro e w1 ⟨rfl, hb1⟩; obtain ⟨hc1, hf1, -, hB1⟩ := bcell hb1; have hz1 := hb1.size; (try simp at hz1); (try have hk0 : w.heap.size < w1.heap.size := by omega); (try have hk1 : w.heap.size + 1 < w1.heap.size := by omega); (try have hk2 : w.heap.size + 1 + 1 < w1.heap.size := by omega)) | (go_at_call 32; refine (validFraction_any _ _ _ (by omega) (by omega)).mono ?_; rintro e w1 ⟨rfl, hb1⟩; obtain ⟨hc1, hf1, -, hB1⟩ := bcell hb1; have hz1 := hb1.size; (try simp at hz1); (try have hk0 : w.heap.size < w1.heap.size := by omega); (try have hk1 : w.heap.size + 1 < w1.heap.size := by omega); (try have hk2 : w.heap.size + 1 + 1 < w1.heap.size := by omega)))
        apply body_row2 (w.heap.size + 1 + 1) 32 Tryd.results15 Tryd.underlying32 rfl rfl rfl; (case q => simp (disch := (first | omega | (simp; done) | (simp; omega))) [*]; try rfl); (case hi => kernel_rfl)
        exact ⟨by rw [HF.out]; simp [zQ], (by repeat' (first | (with_reducible exact Below.refl _ _) | (with_reducible assumption) | (with_reducible refine Below.setCell ?_ ?_ _) | (with_reducible refine Below.alloc ?_ ?_ _) | (with_reducible refine Below.drew ?_) | (with_reducible refine below_drewN ?_ _) | (with_reducible refine Below.trans ?_ (Below.mono (by with_reducible assumption) ?_)) | go_size | (simp at *; omega)))⟩
theorem sStateAt_any (a b c d n m : Int) (w : World) (b0 : -9223372036854775808 ≤ n ∧ n ≤ 9223372036854775807) (b1 : -9223372036854775808 ≤ m ∧ m ≤ 9223372036854775807) :
    Calls Tryd.prog 17 #[.agg #[.int .i64 a, .int .i64 b, .int .i64 c, .int .i64 d], .agg #[.int .i64 n, .int .i64 m]] w fun e w' => e = .returned (.tuple #[.agg #[.int .i64 (atF a b c d n m).1.n, .int .i64 (atF a b c d n m).1.d], .int .i64 (atF a b c d n m).2]) ∧ Below w.heap.size w w' := by
  cases hv : vS a b c d
  · have HF : Hid (atF a b c d n m = (zQ, 1)) := Lib.hid (by simp [atF, hv])
    go_enter Tryd.func17, Tryd.ntmps17
    go_wp2_with (first | (go_at_call 20; refine (l13Ok_any _ _ _ _ _).mono ?_; rintro e w1 ⟨rfl, hb1⟩; obtain ⟨hc1, hf1, -, hB1⟩ := bcell hb1; have hz1 := hb1.size; (try simp at hz1); (try have hk0 : w.heap.size < w1.heap.size := by omega); (try have hk1 : w.heap.size + 1 < w1.heap.size := by omega); (try have hk2 : w.heap.size + 1 + 1 < w1.heap.size := by omega)) | (go_at_call 34; refine (l02Ok_any _ _ _ (by omega) (by omega)).mono ?_; rintro e w1 ⟨rfl, hb1⟩; obtain ⟨hc1, hf1, -, hB1⟩ := bcell hb1; have hz1 := hb1.size; (try simp at hz1); (try have hk0 : w.heap.size < w1.heap.size := by omega); (try have hk1 : w.heap.size + 1 < w1.heap.size := by omega); (try have hk2 : w.heap.size + 1 + 1 < w1.heap.size := by omega)))
    apply body_row2 (w.heap.size + 1 + 1) 32 Tryd.results17 Tryd.underlying32 rfl rfl rfl; (case q => simp (disch := (first | omega | (simp; done) | (simp; omega))) [*]; try rfl); (case hi => kernel_rfl)
    exact ⟨by rw [HF.out]; simp [zQ], (by repeat' (first | (with_reducible exact Below.refl _ _) | (with_reducible assumption) | (with_reducible refine Below.setCell ?_ ?_ _) | (with_reducible refine Below.alloc ?_ ?_ _) | (with_reducible refine Below.drew ?_) | (with_reducible refine below_drewN ?_ _) | (with_reducible refine Below.trans ?_ (Below.mono (by with_reducible assumption) ?_)) | go_size | (simp at *; omega)))⟩
  · cases hq : vQ n m
    · have HF : Hid (atF a b c d n m = (zQ, 1)) := Lib.hid (by simp [atF, hq])
      go_enter Tryd.func17, Tryd.ntmps17
      go_wp2_with (first | (go_at_call 20; refine (l13Ok_any _ _ _ _ _).mono ?_; rintro e w1 ⟨rfl, hb1⟩; obtain ⟨hc1, hf1, -, hB1⟩ := bcell hb1; have hz1 := hb1.size; (try simp at hz1); (try have hk0 : w.heap.size < w1.heap.size := by omega); (try have hk1 : w.heap.size + 1 < w1.heap.size := by omega); (try have hk2 : w.heap.size + 1 + 1 < w1.heap.size := by omega)) | (go_at_call 34; refine (l02Ok_any _ _ _ (by omega) (by omega)).mono ?_; rintro e w1 ⟨rfl, hb1⟩; obtain ⟨hc1, hf1, -, hB1⟩ := bcell hb1; have hz1 := hb1.size; (try simp at hz1); (try have hk0 : w.heap.size < w1.heap.size := by omega); (try have hk1 : w.heap.size + 1 < w1.heap.size := by omega); (try have hk2 : w.heap.size + 1 + 1 < w1.heap.size := by omega)))
      apply body_row2 (w.heap.size + 1 + 1) 32 Tryd.results17 Tryd.underlying32 rfl rfl rfl; (case q => simp (disch := (first | omega | (simp; done) | (simp; omega))) [*]; try rfl); (case hi => kernel_rfl)
      exact ⟨by rw [HF.out]; simp [zQ], (by repeat' (first | (with_reducible exact Below.refl _ _) | (with_reducible assumption) | (with_reducible refine Below.setCell ?_ ?_ _) | (with_reducible refine Below.alloc ?_ ?_ _) | (with_reducible refine Below.drew ?_) | (with_reducible refine below_drewN ?_ _) | (with_reducible refine Below.trans ?_ (Below.mono (by with_reducible assumption) ?_)) | go_size | (simp at *; omega)))⟩
    · obtain ⟨h1, h2, h3, h4⟩ := wide_s hv
      obtain ⟨q1, q2, -⟩ := vQ_iff.1 hq
      have q3 : -1000000000 ≤ m ∧ m ≤ 1000000000 := by omega
      have m1 := mul_s h1 q1
      have m2 := mul_s h2 q3
      have m3 := mul_s h3 q1
      have m4 := mul_s h4 q3
      cases hc : (c * n + d * m == 0)
      · have hc' : c * n + d * m ≠ 0 := by simpa using hc
        have HF : Hid (atF a b c d n m = plainQ (a * n + b * m) (c * n + d * m)) := Lib.hid (by simp [atF, hv, hq, hc])
        go_enter Tryd.func17, Tryd.ntmps17
        go_wp2_with (first | (go_at_call 20; refine (l13Ok_any _ _ _ _ _).mono ?_; rintro e w1 ⟨rfl, hb1⟩; obtain ⟨hc1, hf1, -, hB1⟩ := bcell hb1; have hz1 := hb1.size; (try simp at hz1); (try have hk0 : w.heap.size < w1.heap.size := by omega); (try have hk1 : w.heap.size + 1 < w1.heap.size := by omega); (try have hk2 : w.heap.size + 1 + 1 < w1.heap.size := by omega)) | (go_at_call 34; refine (l02Ok_any _ _ _ (by omega) (by omega)).mono ?_; rintro e w1 ⟨rfl, hb1⟩; obtain ⟨hc1, hf1, -, hB1⟩ := bcell hb1; have hz1 := hb1.size; (try simp at hz1); (try have hk0 : w.heap.size < w1.heap.size := by omega); (try have hk1 : w.heap.size + 1 < w1.heap.size := by omega); (try have hk2 : w.heap.size + 1 + 1 < w1.heap.size := by omega)) | (go_at_call 31; refine (l02Full_any _ _ _ (by omega) (by omega) hc').mono ?_; rintro e w1 ⟨rfl, hb1⟩; obtain ⟨hc1, hf1, -, hB1⟩ := bcell hb1; have hz1 := hb1.size; (try simp at hz1); (try have hk0 : w.heap.size < w1.heap.size := by omega); (try have hk1 : w.heap.size + 1 < w1.heap.size := by omega); (try have hk2 : w.heap.size + 1 + 1 < w1.heap.size := by omega)))
        apply body_row2 (w.heap.size + 1 + 1) 32 Tryd.results17 Tryd.underlying32 rfl rfl rfl; (case q => simp (disch := (first | omega | (simp; done) | (simp; omega))) [*]; try rfl); (case hi => kernel_rfl)
        exact ⟨by rw [HF.out]; rfl, (by repeat' (first | (with_reducible exact Below.refl _ _) | (with_reducible assumption) | (with_reducible refine Below.setCell ?_ ?_ _) | (with_reducible refine Below.alloc ?_ ?_ _) | (with_reducible refine Below.drew ?_) | (with_reducible refine below_drewN ?_ _) | (with_reducible refine Below.trans ?_ (Below.mono (by with_reducible assumption) ?_)) | go_size | (simp at *; omega)))⟩
      · have HF : Hid (atF a b c d n m = (zQ, 6)) := Lib.hid (by simp [atF, hv, hq, hc])
        go_enter Tryd.func17, Tryd.ntmps17
        go_wp2_with (first | (go_at_call 20; refine (l13Ok_any _ _ _ _ _).mono ?_; rintro e w1 ⟨rfl, hb1⟩; obtain ⟨hc1, hf1, -, hB1⟩ := bcell hb1; have hz1 := hb1.size; (try simp at hz1); (try have hk0 : w.heap.size < w1.heap.size := by omega); (try have hk1 : w.heap.size + 1 < w1.heap.size := by omega); (try have hk2 : w.heap.size + 1 + 1 < w1.heap.size := by omega)) | (go_at_call 34; refine (l02Ok_any _ _ _ (by omega) (by omega)).mono ?_; rintro e w1 ⟨rfl, hb1⟩; obtain ⟨hc1, hf1, -, hB1⟩ := bcell hb1; have hz1 := hb1.size; (try simp at hz1); (try have hk0 : w.heap.size < w1.heap.size := by omega); (try have hk1 : w.heap.size + 1 < w1.heap.size := by omega); (try have hk2 : w.heap.size + 1 + 1 < w1.heap.size := by omega)))
        apply body_row2 (w.heap.size + 1 + 1) 32 Tryd.results17 Tryd.underlying32 rfl rfl rfl; (case q => simp (disch := (first | omega | (simp; done) | (simp; omega))) [*]; try rfl); (case hi => kernel_rfl)
        exact ⟨by rw [HF.out]; simp [zQ], (by repeat' (first | (with_reducible exact Below.refl _ _) | (with_reducible assumption) | (with_reducible refine Below.setCell ?_ ?_ _) | (with_reducible refine Below.alloc ?_ ?_ _) | (with_reducible refine Below.drew ?_) | (with_reducible refine below_drewN ?_ _) | (with_reducible refine Below.trans ?_ (Below.mono (by with_reducible assumption) ?_)) | go_size | (simp at *; omega)))⟩
/-- The term that a state knows. -/
def knF (a b c d : Int) : Int × Bool := if c = 0 ∨ c + d = 0 ∨ (decide (c < 0) != decide (c + d < 0)) = true then (0, false) else (fl a c, fl (a + b) (c + d) == fl a c)
def emitF (a b c d : Int) : Int × St × Int :=
  if vS a b c d = true then (if (knF a b c d).2 = true then (if bS c d (a - (knF a b c d).1 * c) (b - (knF a b c d).1 * d) = true then ((knF a b c d).1, ⟨c, d, a - (knF a b c d).1 * c, b - (knF a b c d).1 * d⟩, 0) else (0, zS, 5)) else (0, zS, 10)) else (0, zS, 1)
theorem knF_bound {a b c d : Int} (h : (-1000000000 ≤ a ∧ a ≤ 1000000000)) (hk : (knF a b c d).2 = true) : -1000000000 ≤ (knF a b c d).1 ∧ (knF a b c d).1 ≤ 1000000000 := by
  unfold knF at *
  split at hk
  · simp at hk
  · rename_i hn
    rw [if_neg hn]
    have h0 : c ≠ 0 := fun e => hn (.inl e)
    have := fl_bound (a := a) h0
    have hab : ab a ≤ 1000000000 := by unfold ab; omega
    simp only
    omega
theorem emit_vS {a b c d q : Int} (h : vS a b c d = true) : vS c d (a - q * c) (b - q * d) = bS c d (a - q * c) (b - q * d) := by
  have hd : a * d ≠ b * c := by simp only [vS, Bool.and_eq_true, bne_iff_ne] at h; exact h.2
  have : (c * (b - q * d) != d * (a - q * c)) = true := by
    rw [bne_iff_ne, Int.mul_sub, Int.mul_sub]
    intro e
    apply hd
    have e1 : c * (q * d) = d * (q * c) := by rw [Int.mul_comm q d, Int.mul_comm q c, ← Int.mul_assoc, ← Int.mul_assoc, Int.mul_comm c d]
    rw [Int.mul_comm a d, Int.mul_comm b c]
    omega
  simp [vS, this]
end Go.Proofs.YtfnjboaocalidaaDoor
