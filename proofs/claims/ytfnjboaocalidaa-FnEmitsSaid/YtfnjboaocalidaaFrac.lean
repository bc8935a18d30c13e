/- Fractions: plainness, lowest terms, quotients rounded down; both packages. -/
import Derived.Test.YtfnjboaocalidaaGcd
namespace Go.Proofs.Ytfnjboaocalidaa
open Go.ChangeShapes Go.WideShapes Go.ChangeAt Go.RowKit
set_option linter.unusedVariables false
set_option maxHeartbeats 1000000

structure Fr where
  n : Int
  d : Int
/-- A plain fraction. -/
def vQ (n d : Int) : Bool := inR n (-1000000000) 1000000000 && inR d 1 1000000000 && gI n d == 1
theorem vQ_iff {n d : Int} : vQ n d = true ↔ (-1000000000 ≤ n ∧ n ≤ 1000000000) ∧ (1 ≤ d ∧ d ≤ 1000000000) ∧ gI n d = 1 := by
  simp only [vQ, Bool.and_eq_true, inR_iff, beq_iff_eq, and_assoc]
/-- The numerator and the denominator in lowest terms, the denominator positive. -/
def lowN (a b : Int) : Int := if b < 0 then (-a) / gI a b else a / gI a b
def lowD (a b : Int) : Int := if b < 0 then (-b) / gI a b else b / gI a b
def plainQ (a b : Int) : Fr × Int := if vQ (lowN a b) (lowD a b) = true then (⟨lowN a b, lowD a b⟩, 0) else (⟨0, 0⟩, 5)
theorem div_abs {a g : Int} (hg : 1 ≤ g) (h : g ∣ a) (hb : -9000000000000000000 ≤ a ∧ a ≤ 9000000000000000000) : -9000000000000000000 ≤ a / g ∧ a / g ≤ 9000000000000000000 := by
  obtain ⟨k, rfl⟩ := h
  rw [Int.mul_ediv_cancel_left _ (by omega)]
  rcases Int.lt_or_le k 0 with h0 | h0
  · have : g * k ≤ 1 * k := Int.mul_le_mul_of_nonpos_right hg (by omega)
    omega
  · have : 1 * k ≤ g * k := Int.mul_le_mul_of_nonneg_right hg h0
    omega
theorem validFraction_any (n d : Int) (w : World) (b0 : -9223372036854775808 ≤ n ∧ n ≤ 9223372036854775807) (b1 : -9223372036854775808 ≤ d ∧ d ≤ 9223372036854775807) :
    Calls Try.prog 56 #[.agg #[.int .i64 n, .int .i64 d]] w fun e w' => e = .returned (.bool (vQ n d)) ∧ Below w.heap.size w w' := by
  cases hd : inR d 1 1000000000
  · have hv : vQ n d = false := by simp [vQ, hd]
    go_enter Try.func56, Try.ntmps56
    go_wp2_with (go_at_call 64; refine (within_any _ _ _ _).mono ?_; rintro e w1 ⟨rfl, rfl⟩)
    go_ret
    exact ⟨ret_bool hv.symm, (by repeat' (first | (with_reducible exact Below.refl _ _) | (with_reducible assumption) | (with_reducible refine Below.setCell ?_ ?_ _) | (with_reducible refine Below.alloc ?_ ?_ _) | (with_reducible refine Below.drew ?_) | (with_reducible refine below_drewN ?_ _) | (with_reducible refine Below.trans ?_ (Below.mono (by with_reducible assumption) ?_)) | go_size | (simp at *; omega)))⟩
  · cases hn : inR n (-1000000000) 1000000000
    · have hv : vQ n d = false := by simp [vQ, hn]
      go_enter Try.func56, Try.ntmps56
      go_wp2_with (go_at_call 64; refine (within_any _ _ _ _).mono ?_; rintro e w1 ⟨rfl, rfl⟩)
      go_ret
      exact ⟨ret_bool hv.symm, (by repeat' (first | (with_reducible exact Below.refl _ _) | (with_reducible assumption) | (with_reducible refine Below.setCell ?_ ?_ _) | (with_reducible refine Below.alloc ?_ ?_ _) | (with_reducible refine Below.drew ?_) | (with_reducible refine below_drewN ?_ _) | (with_reducible refine Below.trans ?_ (Below.mono (by with_reducible assumption) ?_)) | go_size | (simp at *; omega)))⟩
    · obtain ⟨d0, d1⟩ := inR_iff.1 hd
      obtain ⟨n0, n1⟩ := inR_iff.1 hn
      have hv : vQ n d = (gI n d == 1) := by simp [vQ, hn, hd]
      go_enter Try.func56, Try.ntmps56
      go_wp2_with (first | (go_at_call 64; refine (within_any _ _ _ _).mono ?_; rintro e w1 ⟨rfl, rfl⟩) | (go_at_call 44; refine (gcd_any _ _ _ (by omega) (by omega) (by omega) (by omega)).mono ?_; rintro e w1 ⟨rfl, nn, rfl⟩))
      go_ret
      exact ⟨ret_bool hv.symm, (by repeat' (first | (with_reducible exact Below.refl _ _) | (with_reducible assumption) | (with_reducible refine Below.setCell ?_ ?_ _) | (with_reducible refine Below.alloc ?_ ?_ _) | (with_reducible refine Below.drew ?_) | (with_reducible refine below_drewN ?_ _) | (with_reducible refine Below.trans ?_ (Below.mono (by with_reducible assumption) ?_)) | go_size | (simp at *; omega)))⟩
theorem l02Ok_any (n d : Int) (w : World) (b0 : -9223372036854775808 ≤ n ∧ n ≤ 9223372036854775807) (b1 : -9223372036854775808 ≤ d ∧ d ≤ 9223372036854775807) :
    Calls Try.prog 55 #[.agg #[.int .i64 n, .int .i64 d]] w fun e w' => e = .returned (.bool (vQ n d)) ∧ Below w.heap.size w w' := by
  cases hn : inR n (-1000000000) 1000000000
  · have hv : vQ n d = false := by simp [vQ, hn]
    go_enter Try.func55, Try.ntmps55
    go_wp2
    go_quiet ((first | (go_at_call 78; exact quiet_left (in_any _ _ _ _))))
    go_wp2
    go_ret
    exact ⟨ret_bool hv.symm, (by repeat' (first | (with_reducible exact Below.refl _ _) | (with_reducible assumption) | (with_reducible refine Below.setCell ?_ ?_ _) | (with_reducible refine Below.alloc ?_ ?_ _) | (with_reducible refine Below.drew ?_) | (with_reducible refine below_drewN ?_ _) | (with_reducible refine Below.trans ?_ (Below.mono (by with_reducible assumption) ?_)) | go_size | (simp at *; omega)))⟩
  · cases hd : inR d 1 1000000000
    · have hv : vQ n d = false := by simp [vQ, hd]
      go_enter Try.func55, Try.ntmps55
      go_wp2
      go_quiet ((first | (go_at_call 78; exact quiet_left (in_any _ _ _ _))))
      go_wp2
      go_ret
      exact ⟨ret_bool hv.symm, (by repeat' (first | (with_reducible exact Below.refl _ _) | (with_reducible assumption) | (with_reducible refine Below.setCell ?_ ?_ _) | (with_reducible refine Below.alloc ?_ ?_ _) | (with_reducible refine Below.drew ?_) | (with_reducible refine below_drewN ?_ _) | (with_reducible refine Below.trans ?_ (Below.mono (by with_reducible assumption) ?_)) | go_size | (simp at *; omega)))⟩
    · obtain ⟨d0, d1⟩ := inR_iff.1 hd
      obtain ⟨n0, n1⟩ := inR_iff.1 hn
      have hv : vQ n d = (gI (ab n) d == 1) := by
        have : gI (ab n) d = gI n d := by unfold gI ab Int.gcd; simp
        rw [this]; simp [vQ, hn, hd]
      have a0 := ab_nonneg n
      have a1 : ab n ≤ 1000000000 := by unfold ab; omega
      go_enter Try.func55, Try.ntmps55
      go_wp2
      go_quiet ((first | (go_at_call 78; exact quiet_left (in_any _ _ _ _)) | (go_at_call 75; exact quiet_left (size_any _ _ (by omega))) | (go_at_call 74; exact quiet_left (l02Gcd_any _ _ _ (by omega) (by omega) (by omega) (by omega)))))
      go_wp2
      go_ret
      exact ⟨ret_bool hv.symm, (by repeat' (first | (with_reducible exact Below.refl _ _) | (with_reducible assumption) | (with_reducible refine Below.setCell ?_ ?_ _) | (with_reducible refine Below.alloc ?_ ?_ _) | (with_reducible refine Below.drew ?_) | (with_reducible refine below_drewN ?_ _) | (with_reducible refine Below.trans ?_ (Below.mono (by with_reducible assumption) ?_)) | go_size | (simp at *; omega)))⟩
theorem plainQ_eq (a b : Int) : plainQ a b = if vQ (lowN a b) (lowD a b) = true then (⟨lowN a b, lowD a b⟩, 0) else (⟨0, 0⟩, 5) := rfl
theorem plainOf_any (a b : Int) (w : World) (ha : -9000000000000000000 ≤ a ∧ a ≤ 9000000000000000000) (hb : -9000000000000000000 ≤ b ∧ b ≤ 9000000000000000000) (h0 : b ≠ 0) :
    Calls Try.prog 54 #[.int .i64 a, .int .i64 b] w fun e w' => e = .returned (.tuple #[.agg #[.int .i64 (plainQ a b).1.n, .int .i64 (plainQ a b).1.d], .int .i64 (plainQ a b).2]) ∧ Below w.heap.size w w' := by
  have g1 : 1 ≤ gI a b := gI_pos (.inr h0)
  have g2 : gI a b ≤ 9000000000000000000 := by
    have h1 := gI_le (a := a) h0
    have h2 : ab b ≤ 9000000000000000000 := by unfold ab; omega
    omega
  have da := gI_dvd_left a b
  have db := gI_dvd_right a b
  have HF := Lib.hid (plainQ_eq a b)
  by_cases hs : b < 0
  · have eN : lowN a b = (-a) / gI a b := by simp [lowN, hs]
    have eD : lowD a b = (-b) / gI a b := by simp [lowD, hs]
    have e1 : a.tdiv (-gI a b) = lowN a b := by rw [eN, tdiv_neg, tdiv_dvd da, neg_div_dvd da]
    have e2 : b.tdiv (-gI a b) = lowD a b := by rw [eD, tdiv_neg, tdiv_dvd db, neg_div_dvd db]
    have bN : -9000000000000000000 ≤ lowN a b ∧ lowN a b ≤ 9000000000000000000 := by rw [eN]; exact div_abs g1 (Int.dvd_neg.2 da) (by omega)
    have bD : -9000000000000000000 ≤ lowD a b ∧ lowD a b ≤ 9000000000000000000 := by rw [eD]; exact div_abs g1 (Int.dvd_neg.2 db) (by omega)
    clear eN eD da db
    have HG := Lib.hid (rfl : gI a b = gI a b)
    generalize lowN a b = N at *
    generalize lowD a b = D at *
    obtain ⟨n1, n2⟩ := bN
    obtain ⟨d1, d2⟩ := bD
    cases hv : vQ N D
    all_goals
      go_enter Try.func54, Try.ntmps54
      go_wp2_with (go_at_call 44; refine (gcd_any _ _ _ (by omega) (by omega) (by omega) (by omega)).mono ?_; rintro e w1 ⟨rfl, nn, rfl⟩)
      go_region
      all_goals
        go_wp2_with (go_at_call 56; refine (validFraction_any _ _ _ (by omega) (by omega)).mono ?_; rintro e w1 ⟨rfl, hb1⟩; obtain ⟨hc1, hf1, -, hB1⟩ := bcell hb1; have hz1 := hb1.size; (try simp at hz1); (try have hk0 : w.heap.size < w1.heap.size := by omega); (try have hk1 : w.heap.size + 1 < w1.heap.size := by omega); (try have hk2 : w.heap.size + 1 + 1 < w1.heap.size := by omega))
        apply body_row2 (w.heap.size) 39 Try.results54 Try.underlying39 rfl rfl rfl; (case q => simp (disch := (first | omega | (simp; done) | (simp; omega))) [*]; try rfl); (case hi => kernel_rfl)
        exact ⟨by rw [HF.out]; simp [hv], (by repeat' (first | (with_reducible exact Below.refl _ _) | (with_reducible assumption) | (with_reducible refine Below.setCell ?_ ?_ _) | (with_reducible refine Below.alloc ?_ ?_ _) | (with_reducible refine Below.drew ?_) | (with_reducible refine below_drewN ?_ _) | (with_reducible refine Below.trans ?_ (Below.mono (by with_reducible assumption) ?_)) | go_size | (simp at *; omega)))⟩
  · have eN : lowN a b = a / gI a b := by simp [lowN, hs]
    have eD : lowD a b = b / gI a b := by simp [lowD, hs]
    have e1 : a.tdiv (gI a b) = lowN a b := by rw [eN, tdiv_dvd da]
    have e2 : b.tdiv (gI a b) = lowD a b := by rw [eD, tdiv_dvd db]
    have e3 : a / gI a b = lowN a b := eN.symm
    have e4 : b / gI a b = lowD a b := eD.symm
    have bN : -9000000000000000000 ≤ lowN a b ∧ lowN a b ≤ 9000000000000000000 := by rw [eN]; exact div_abs g1 da (by omega)
    have bD : -9000000000000000000 ≤ lowD a b ∧ lowD a b ≤ 9000000000000000000 := by rw [eD]; exact div_abs g1 db (by omega)
    clear eN eD da db
    generalize lowN a b = N at *
    generalize lowD a b = D at *
    obtain ⟨n1, n2⟩ := bN
    obtain ⟨d1, d2⟩ := bD
    cases hv : vQ N D
    all_goals
      go_enter Try.func54, Try.ntmps54
      go_wp2_with (go_at_call 44; refine (gcd_any _ _ _ (by omega) (by omega) (by omega) (by omega)).mono ?_; rintro e w1 ⟨rfl, nn, rfl⟩)
      go_region
      all_goals
        go_wp2_with (go_at_call 56; refine (validFraction_any _ _ _ (by omega) (by omega)).mono ?_; rintro e w1 ⟨rfl, hb1⟩; obtain ⟨hc1, hf1, -, hB1⟩ := bcell hb1; have hz1 := hb1.size; (try simp at hz1); (try have hk0 : w.heap.size < w1.heap.size := by omega); (try have hk1 : w.heap.size + 1 < w1.heap.size := by omega); (try have hk2 : w.heap.size + 1 + 1 < w1.heap.size := by omega))
        apply body_row2 (w.heap.size) 39 Try.results54 Try.underlying39 rfl rfl rfl; (case q => simp (disch := (first | omega | (simp; done) | (simp; omega))) [*]; try rfl); (case hi => kernel_rfl)
        exact ⟨by rw [HF.out]; simp [hv], (by repeat' (first | (with_reducible exact Below.refl _ _) | (with_reducible assumption) | (with_reducible refine Below.setCell ?_ ?_ _) | (with_reducible refine Below.alloc ?_ ?_ _) | (with_reducible refine Below.drew ?_) | (with_reducible refine below_drewN ?_ _) | (with_reducible refine Below.trans ?_ (Below.mono (by with_reducible assumption) ?_)) | go_size | (simp at *; omega)))⟩
theorem l02Make_any (a b : Int) (w : World) (ha : -9000000000000000000 ≤ a ∧ a ≤ 9000000000000000000) (hb : 0 < b) (hb' : b ≤ 9000000000000000000) :
    Calls Try.prog 81 #[.int .i64 a, .int .i64 b] w fun e w' => e = .returned (.agg #[.int .i64 (a / gI a b), .int .i64 (b / gI a b)]) ∧ Below w.heap.size w w' := by
  have g1 : 1 ≤ gI a b := gI_pos (.inr (by omega))
  have g2 : gI a b ≤ 9000000000000000000 := by
    have h1 := gI_le (a := a) (b := b) (by omega)
    have h2 : ab b ≤ 9000000000000000000 := by unfold ab; omega
    omega
  have a0 := ab_nonneg a
  have a1 : ab a ≤ 9000000000000000000 := by unfold ab; omega
  have eg : gI (ab a) b = gI a b := by unfold gI ab Int.gcd; simp
  have da := gI_dvd_left a b
  have db := gI_dvd_right a b
  obtain ⟨n1, n2⟩ := div_abs g1 da ha
  obtain ⟨d1, d2⟩ := div_abs g1 db (by omega)
  have e1 : a.tdiv (gI a b) = a / gI a b := tdiv_dvd da
  have e2 : b.tdiv (gI a b) = b / gI a b := tdiv_dvd db
  clear da db
  go_enter Try.func81, Try.ntmps81
  go_wp2_with (first | (go_at_call 75; refine (size_any _ _ (by omega)).mono ?_; rintro e w1 ⟨rfl, rfl⟩) | (go_at_call 74; refine (l02Gcd_any _ _ _ (by omega) (by omega) (by omega) (by omega)).mono ?_; rintro e w1 ⟨rfl, rfl⟩; try rw [eg]))
  go_region
  all_goals
    go_wp2
    go_returns
    exact ⟨rfl, (by repeat' (first | (with_reducible exact Below.refl _ _) | (with_reducible assumption) | (with_reducible refine Below.setCell ?_ ?_ _) | (with_reducible refine Below.alloc ?_ ?_ _) | (with_reducible refine Below.drew ?_) | (with_reducible refine below_drewN ?_ _) | (with_reducible refine Below.trans ?_ (Below.mono (by with_reducible assumption) ?_)) | go_size | (simp at *; omega)))⟩
theorem l02Full_any (a b : Int) (w : World) (ha : -9000000000000000000 ≤ a ∧ a ≤ 9000000000000000000) (hb : -9000000000000000000 ≤ b ∧ b ≤ 9000000000000000000) (h0 : b ≠ 0) :
    Calls Try.prog 53 #[.int .i64 a, .int .i64 b] w fun e w' => e = .returned (.tuple #[.agg #[.int .i64 (plainQ a b).1.n, .int .i64 (plainQ a b).1.d], .int .i64 (plainQ a b).2]) ∧ Below w.heap.size w w' := by
  have g1 : 1 ≤ gI a b := gI_pos (.inr h0)
  have da := gI_dvd_left a b
  have db := gI_dvd_right a b
  have HF := Lib.hid (plainQ_eq a b)
  by_cases hs : b < 0
  · have eN : (-a) / gI (-a) (-b) = lowN a b := by rw [gI_neg, gI_neg']; simp [lowN, hs]
    have eD : (-b) / gI (-a) (-b) = lowD a b := by rw [gI_neg, gI_neg']; simp [lowD, hs]
    have bN : -9000000000000000000 ≤ lowN a b ∧ lowN a b ≤ 9000000000000000000 := by rw [← eN, gI_neg, gI_neg']; exact div_abs g1 (Int.dvd_neg.2 da) (by omega)
    have bD : -9000000000000000000 ≤ lowD a b ∧ lowD a b ≤ 9000000000000000000 := by rw [← eD, gI_neg, gI_neg']; exact div_abs g1 (Int.dvd_neg.2 db) (by omega)
    clear da db
    generalize lowN a b = N at *
    generalize lowD a b = D at *
    obtain ⟨n1, n2⟩ := bN
    obtain ⟨d1, d2⟩ := bD
    cases hv : vQ N D
    all_goals
      go_enter Try.func53, Try.ntmps53
      go_wp2_with (first | (go_at_call 81; refine (l02Make_any _ _ _ (by omega) (by omega) (by omega)).mono ?_; rintro e w1 ⟨rfl, hb1⟩; obtain ⟨hc1, hf1, -, hB1⟩ := bcell hb1; have hz1 := hb1.size; (try simp at hz1); (try have hk0 : w.heap.size < w1.heap.size := by omega); (try have hk1 : w.heap.size + 1 < w1.heap.size := by omega); (try have hk2 : w.heap.size + 1 + 1 < w1.heap.size := by omega)) | (go_at_call 55; refine (l02Ok_any _ _ _ (by omega) (by omega)).mono ?_; rintro e w1 ⟨rfl, hb1⟩; obtain ⟨hc1, hf1, -, hB1⟩ := bcell hb1; have hz1 := hb1.size; (try simp at hz1); (try have hk0 : w.heap.size < w1.heap.size := by omega); (try have hk1 : w.heap.size + 1 < w1.heap.size := by omega); (try have hk2 : w.heap.size + 1 + 1 < w1.heap.size := by omega)))
      apply body_row2 (w.heap.size) 39 Try.results53 Try.underlying39 rfl rfl rfl; (case q => simp (disch := (first | omega | (simp; done) | (simp; omega))) [*]; try rfl); (case hi => kernel_rfl)
      exact ⟨by rw [HF.out]; simp [hv], (by repeat' (first | (with_reducible exact Below.refl _ _) | (with_reducible assumption) | (with_reducible refine Below.setCell ?_ ?_ _) | (with_reducible refine Below.alloc ?_ ?_ _) | (with_reducible refine Below.drew ?_) | (with_reducible refine below_drewN ?_ _) | (with_reducible refine Below.trans ?_ (Below.mono (by with_reducible assumption) ?_)) | go_size | (simp at *; omega)))⟩
  · have eN : a / gI a b = lowN a b := by simp [lowN, hs]
    have eD : b / gI a b = lowD a b := by simp [lowD, hs]
    have bN : -9000000000000000000 ≤ lowN a b ∧ lowN a b ≤ 9000000000000000000 := by rw [← eN]; exact div_abs g1 da (by omega)
    have bD : -9000000000000000000 ≤ lowD a b ∧ lowD a b ≤ 9000000000000000000 := by rw [← eD]; exact div_abs g1 db (by omega)
    clear da db
    generalize lowN a b = N at *
    generalize lowD a b = D at *
    obtain ⟨n1, n2⟩ := bN
    obtain ⟨d1, d2⟩ := bD
    cases hv : vQ N D
    all_goals
      go_enter Try.func53, Try.ntmps53
      go_wp2_with (first | (go_at_call 81; refine (l02Make_any _ _ _ (by omega) (by omega) (by omega)).mono ?_; rintro e w1 ⟨rfl, hb1⟩; obtain ⟨hc1, hf1, -, hB1⟩ := bcell hb1; have hz1 := hb1.size; (try simp at hz1); (try have hk0 : w.heap.size < w1.heap.size := by omega); (try have hk1 : w.heap.size + 1 < w1.heap.size := by omega); (try have hk2 : w.heap.size + 1 + 1 < w1.heap.size := by omega)) | (go_at_call 55; refine (l02Ok_any _ _ _ (by omega) (by omega)).mono ?_; rintro e w1 ⟨rfl, hb1⟩; obtain ⟨hc1, hf1, -, hB1⟩ := bcell hb1; have hz1 := hb1.size; (try simp at hz1); (try have hk0 : w.heap.size < w1.heap.size := by omega); (try have hk1 : w.heap.size + 1 < w1.heap.size := by omega); (try have hk2 : w.heap.size + 1 + 1 < w1.heap.size := by omega)))
      apply body_row2 (w.heap.size) 39 Try.results53 Try.underlying39 rfl rfl rfl; (case q => simp (disch := (first | omega | (simp; done) | (simp; omega))) [*]; try rfl); (case hi => kernel_rfl)
      exact ⟨by rw [HF.out]; simp [hv], (by repeat' (first | (with_reducible exact Below.refl _ _) | (with_reducible assumption) | (with_reducible refine Below.setCell ?_ ?_ _) | (with_reducible refine Below.alloc ?_ ?_ _) | (with_reducible refine Below.drew ?_) | (with_reducible refine below_drewN ?_ _) | (with_reducible refine Below.trans ?_ (Below.mono (by with_reducible assumption) ?_)) | go_size | (simp at *; omega)))⟩
theorem toFraction_any (n d : Int) (w : World) :
    Calls Try.prog 26 #[.agg #[.int .i64 n, .int .i64 d]] w fun e w' => e = .returned (.agg #[.int .i64 n, .int .i64 d]) ∧ Below w.heap.size w w' := by
  go_enter Try.func26, Try.ntmps26
  go_wp2
  go_returns
  exact ⟨rfl, (by repeat' (first | (with_reducible exact Below.refl _ _) | (with_reducible assumption) | (with_reducible refine Below.setCell ?_ ?_ _) | (with_reducible refine Below.alloc ?_ ?_ _) | (with_reducible refine Below.drew ?_) | (with_reducible refine below_drewN ?_ _) | (with_reducible refine Below.trans ?_ (Below.mono (by with_reducible assumption) ?_)) | go_size | (simp at *; omega)))⟩
theorem eqFraction_same (n d : Int) (w : World) :
    Calls Try.prog 24 #[.agg #[.int .i64 n, .int .i64 d], .agg #[.int .i64 n, .int .i64 d]] w fun e w' => e = .returned (.bool true) ∧ Below w.heap.size w w' := by
  go_enter Try.func24, Try.ntmps24
  go_wp2
  go_returns
  exact ⟨rfl, (by repeat' (first | (with_reducible exact Below.refl _ _) | (with_reducible assumption) | (with_reducible refine Below.setCell ?_ ?_ _) | (with_reducible refine Below.alloc ?_ ?_ _) | (with_reducible refine Below.drew ?_) | (with_reducible refine below_drewN ?_ _) | (with_reducible refine Below.trans ?_ (Below.mono (by with_reducible assumption) ?_)) | go_size | (simp at *; omega)))⟩
theorem floorDiv_any (a b : Int) (w : World) (ha : -9000000000000000000 ≤ a ∧ a ≤ 9000000000000000000) (hb : -9000000000000000000 ≤ b ∧ b ≤ 9000000000000000000) (h0 : b ≠ 0) :
    Calls Try.prog 87 #[.int .i64 a, .int .i64 b] w fun e w' => e = .returned (.int .i64 (fl a b)) ∧ w = w' := by
  have hbd := fl_bound (a := a) h0
  have hab : ab a ≤ 9000000000000000000 := by unfold ab; omega
  rcases Int.lt_or_le 0 b with hb0 | hb0
  · have nb : decide (b < 0) = false := by simp; omega
    rcases Int.lt_or_le a 0 with ha0 | ha0
    · have e := fl_down ha0 hb0
      have ef : fl a b = a / b := by simp [fl, hb0]
      by_cases hm : a.tmod b = 0
      · have e1 : a.tdiv b = fl a b := by rw [ef, e, if_pos hm]
        have hm' : (a.tmod b != 0) = false := by simp [hm]
        clear e ef hm
        generalize fl a b = F at *
        go_enter Try.func87, Try.ntmps87
        go_wp2
        go_ret
        exact ⟨rfl, rfl⟩
      · have e1 : a.tdiv b = fl a b + 1 := by rw [ef, e, if_neg hm]; omega
        have hm' : (a.tmod b != 0) = true := by simp [hm]
        clear e ef hm
        generalize fl a b = F at *
        go_enter Try.func87, Try.ntmps87
        go_wp2
        go_ret
        exact ⟨ret_int (by omega), rfl⟩
    · have na : decide (a < 0) = false := by simp; omega
      have ef : a / b = fl a b := by simp [fl, hb0]
      have e1 : a.tdiv b = fl a b := by rw [tdiv_pp ha0, ef]
      generalize fl a b = F at *
      cases hm : (a % b != 0)
      all_goals
        go_enter Try.func87, Try.ntmps87
        go_wp2
        go_ret
        exact ⟨rfl, rfl⟩
  · have hb1 : 0 < -b := by omega
    have eb : b = -(-b) := by omega
    have ef : fl a b = (-a) / (-b) := by simp only [fl]; rw [if_neg (by omega)]
    have nb : decide (b < 0) = true := by simp; omega
    rcases Int.lt_or_le a 0 with ha0 | ha0
    · have e1 : a.tdiv b = fl a b := by
        rw [ef, tdiv_np ha0, Int.ediv_neg]
      clear ef eb
      generalize fl a b = F at *
      cases hm : (a.tmod b != 0)
      all_goals
        go_enter Try.func87, Try.ntmps87
        go_wp2
        go_ret
        exact ⟨rfl, rfl⟩
    · have na : decide (a < 0) = false := by simp; omega
      rcases Int.lt_or_le 0 a with ha1 | ha1
      · have e := fl_down (a := -a) (b := -b) (by omega) hb1
        have et : (-a).tdiv (-b) = a.tdiv b := by rw [Int.tdiv_neg, Int.neg_tdiv, Int.neg_neg]
        have em : (-a).tmod (-b) = -(a.tmod b) := by rw [Int.tmod_neg, Int.neg_tmod]
        rw [et, em] at e
        by_cases hm : a.tmod b = 0
        · have e1 : a.tdiv b = fl a b := by rw [ef, e, if_pos (by omega)]
          have hm1 : (a.tmod b != 0) = false := by simp [hm]
          have hm2 : (a % b != 0) = false := by rw [← tmod_pp ha0]; exact hm1
          clear e ef hm et em eb
          generalize fl a b = F at *
          go_enter Try.func87, Try.ntmps87
          go_wp2
          go_ret
          exact ⟨rfl, rfl⟩
        · have e1 : a.tdiv b = fl a b + 1 := by rw [ef, e, if_neg (by omega)]; omega
          have hm1 : (a.tmod b != 0) = true := by simp [hm]
          have hm2 : (a % b != 0) = true := by rw [← tmod_pp ha0]; exact hm1
          clear e ef hm et em eb
          generalize fl a b = F at *
          go_enter Try.func87, Try.ntmps87
          go_wp2
          go_ret
          exact ⟨ret_int (by omega), rfl⟩
      · have : a = 0 := by omega
        subst this
        have ef' : fl 0 b = 0 := by rw [ef]; simp
        clear ef eb na
        go_enter Try.func87, Try.ntmps87
        go_wp2
        go_ret
        exact ⟨ret_int (by simp [ef']), rfl⟩
theorem l02Floor_any (a b : Int) (w : World) (ha : -9000000000000000000 ≤ a ∧ a ≤ 9000000000000000000) (hb : b ≤ 9000000000000000000) (hb0 : 0 < b) :
    Calls Try.prog 71 #[.int .i64 a, .int .i64 b] w fun e w' => e = .returned (.int .i64 (fl a b)) ∧ w = w' := by
  have hbd := fl_bound (a := a) (b := b) (by omega)
  have hab : ab a ≤ 9000000000000000000 := by unfold ab; omega
  rcases Int.lt_or_le a 0 with ha0 | ha0
  · have e := fl_down ha0 hb0
    have ef : fl a b = a / b := by simp [fl, hb0]
    have hmn : a.tmod b ≤ 0 := by rw [tmod_np ha0]; have := Int.emod_nonneg (-a) (by omega : b ≠ 0); omega
    by_cases hm : a.tmod b = 0
    · have e1 : a.tdiv b = fl a b := by rw [ef, e, if_pos hm]
      have hm' : ¬ a.tmod b < 0 := by omega
      clear e ef hm hmn
      generalize fl a b = F at *
      go_enter Try.func71, Try.ntmps71
      go_wp2
      go_ret
      exact ⟨rfl, rfl⟩
    · have e1 : a.tdiv b = fl a b + 1 := by rw [ef, e, if_neg hm]; omega
      have hm' : a.tmod b < 0 := by omega
      clear e ef hm hmn
      generalize fl a b = F at *
      go_enter Try.func71, Try.ntmps71
      go_wp2
      go_ret
      exact ⟨ret_int (by omega), rfl⟩
  · have ef : a / b = fl a b := by simp [fl, hb0]
    have e1 : a.tdiv b = fl a b := by rw [tdiv_pp ha0, ef]
    have hm : ¬ a % b < 0 := by have := Int.emod_nonneg a (by omega : b ≠ 0); omega
    generalize fl a b = F at *
    go_enter Try.func71, Try.ntmps71
    go_wp2
    go_ret
    exact ⟨rfl, rfl⟩
theorem l13Div_any (a b : Int) (w : World) (ha : -9000000000000000000 ≤ a ∧ a ≤ 9000000000000000000) (hb : -9000000000000000000 ≤ b ∧ b ≤ 9000000000000000000) (h0 : b ≠ 0) :
    Calls Try.prog 82 #[.int .i64 a, .int .i64 b] w fun e w' => e = .returned (.int .i64 (fl a b)) ∧ w = w' := by
  by_cases hs : b < 0
  · have e : fl (-a) (-b) = fl a b := by unfold fl; rw [if_pos (by omega), if_neg (by omega)]
    go_enter Try.func82, Try.ntmps82
    go_wp2_with (go_at_call 71; refine (l02Floor_any _ _ _ (by omega) (by omega) (by omega)).mono ?_; rintro e w1 ⟨rfl, rfl⟩)
    go_ret
    exact ⟨rfl, rfl⟩
  · go_enter Try.func82, Try.ntmps82
    go_wp2_with (go_at_call 71; refine (l02Floor_any _ _ _ (by omega) (by omega) (by omega)).mono ?_; rintro e w1 ⟨rfl, rfl⟩)
    go_ret
    exact ⟨rfl, rfl⟩
end Go.Proofs.Ytfnjboaocalidaa
