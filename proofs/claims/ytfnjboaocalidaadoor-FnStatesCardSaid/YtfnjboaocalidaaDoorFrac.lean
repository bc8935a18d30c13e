/- Fractions: plainness, lowest terms, quotients rounded down; both packages. -/
import Derived.Test.YtfnjboaocalidaaDoorGcd
namespace Go.Proofs.YtfnjboaocalidaaDoor
open Go.ChangeShapes Go.WideShapes Go.ChangeAt Go.RowKit
set_option linter.unusedVariables false
set_option maxHeartbeats 1000000

structure Fr where
  n : Int
  d : Int
/-- A plain fraction. -/
def vQ (n d : Int) : Bool := inR n (-1000000000) 1000000000 && inR d 1 1000000000 && gI n d == 1
theorem vQ_iff {n d : Int} : vQ n d = true ↔ (-1000000000 ≤ n ∧ n ≤ 1000000000) ∧ (1 ≤ d ∧ d ≤ 1000000000) ∧ gI n d = 1 := by
  simp only [vQ, Bool.and_eq_true, inR_iff, beq_iff_eq, and_assoc]
/-- The numerator and the denominator in lowest terms, the denominator positive. -/
def lowN (a b : Int) : Int := if b < 0 then (-a) / gI a b else a / gI a b
def lowD (a b : Int) : Int := if b < 0 then (-b) / gI a b else b / gI a b
def plainQ (a b : Int) : Fr × Int := if vQ (lowN a b) (lowD a b) = true then (⟨lowN a b, lowD a b⟩, 0) else (⟨0, 0⟩, 5)
theorem div_abs {a g : Int} (hg : 1 ≤ g) (h : g ∣ a) (hb : -9000000000000000000 ≤ a ∧ a ≤ 9000000000000000000) : -9000000000000000000 ≤ a / g ∧ a / g ≤ 9000000000000000000 := by
  obtain ⟨k, rfl⟩ := h
  rw [Int.mul_ediv_cancel_left _ (by omega)]
  rcases Int.lt_or_le k 0 with h0 | h0
  · have : g * k ≤ 1 * k := Int.mul_le_mul_of_nonpos_right hg (by omega)
    omega
  · have : 1 * k ≤ g * k := Int.mul_le_mul_of_nonneg_right hg h0
    omega
theorem validFraction_any (n d : Int) (w : World) (b0 : -9223372036854775808 ≤ n ∧ n ≤ 9223372036854775807) (b1 : -9223372036854775808 ≤ d ∧ d ≤ 9223372036854775807) :
    Calls Tryd.prog 32 #[.agg #[.int .i64 n, .int .i64 d]] w fun e w' => e = .returned (.bool (vQ n d)) ∧ Below w.heap.size w w' := by
  cases hd : inR d 1 1000000000
  · have hv : vQ n d = false := by simp [vQ, hd]
    go_enter Tryd.func32, Tryd.ntmps32
    go_wp2_with (go_at_call 27; refine (within_any _ _ _ _).mono ?_; rintro e w1 ⟨rfl, rfl⟩)
    go_ret
    exact ⟨ret_bool hv.symm, (by repeat' (first | (with_reducible exact Below.refl _ _) | (with_reducible assumption) | (with_reducible refine Below.setCell ?_ ?_ _) | (with_reducible refine Below.alloc ?_ ?_ _) | (with_reducible refine Below.drew ?_) | (with_reducible refine below_drewN ?_ _) | (with_reducible refine Below.trans ?_ (Below.mono (by with_reducible assumption) ?_)) | go_size | (simp at *; omega)))⟩
  · cases hn : inR n (-1000000000) 1000000000
    · have hv : vQ n d = false := by simp [vQ, hn]
      go_enter Tryd.func32, Tryd.ntmps32
      go_wp2_with (go_at_call 27; refine (within_any _ _ _ _).mono ?_; rintro e w1 ⟨rfl, rfl⟩)
      go_ret
      exact ⟨ret_bool hv.symm, (by repeat' (first | (with_reducible exact Below.refl _ _) | (with_reducible assumption) | (with_reducible refine Below.setCell ?_ ?_ _) | (with_reducible refine Below.alloc ?_ ?_ _) | (with_reducible refine Below.drew ?_) | (with_reducible refine below_drewN ?_ _) | (with_reducible refine Below.trans ?_ (Below.mono (by with_reducible assumption) ?_)) | go_size | (simp at *; omega)))⟩
    · obtain ⟨d0, d1⟩ := inR_iff.1 hd
      obtain ⟨n0, n1⟩ := inR_iff.1 hn
      have hv : vQ n d = (gI n d == 1) := by simp [vQ, hn, hd]
      go_enter Tryd.func32, Tryd.ntmps32
      go_wp2_with (first | (go_at_call 27; refine (within_any _ _ _ _).mono ?_; rintro e w1 ⟨rfl, rfl⟩) | (go_at_call 35; refine (gcd_any _ _ _ (by omega) (by omega) (by omega) (by omega)).mono ?_; rintro e w1 ⟨rfl, nn, rfl⟩))
      go_ret
      exact ⟨ret_bool hv.symm, (by repeat' (first | (with_reducible exact Below.refl _ _) | (with_reducible assumption) | (with_reducible refine Below.setCell ?_ ?_ _) | (with_reducible refine Below.alloc ?_ ?_ _) | (with_reducible refine Below.drew ?_) | (with_reducible refine below_drewN ?_ _) | (with_reducible refine Below.trans ?_ (Below.mono (by with_reducible assumption) ?_)) | go_size | (simp at *; omega)))⟩
theorem l02Ok_any (n d : Int) (w : World) (b0 : -9223372036854775808 ≤ n ∧ n ≤ 9223372036854775807) (b1 : -9223372036854775808 ≤ d ∧ d ≤ 9223372036854775807) :
    Calls Tryd.prog 34 #[.agg #[.int .i64 n, .int .i64 d]] w fun e w' => e = .returned (.bool (vQ n d)) ∧ Below w.heap.size w w' := by
  cases hn : inR n (-1000000000) 1000000000
  · have hv : vQ n d = false := by simp [vQ, hn]
    go_enter Tryd.func34, Tryd.ntmps34
    go_wp2
    go_quiet ((first | (go_at_call 43; exact quiet_left (in_any _ _ _ _))))
    go_wp2
    go_ret
    exact ⟨ret_bool hv.symm, (by repeat' (first | (with_reducible exact Below.refl _ _) | (with_reducible assumption) | (with_reducible refine Below.setCell ?_ ?_ _) | (with_reducible refine Below.alloc ?_ ?_ _) | (with_reducible refine Below.drew ?_) | (with_reducible refine below_drewN ?_ _) | (with_reducible refine Below.trans ?_ (Below.mono (by with_reducible assumption) ?_)) | go_size | (simp at *; omega)))⟩
  · cases hd : inR d 1 1000000000
    · have hv : vQ n d = false := by simp [vQ, hd]
      go_enter Tryd.func34, Tryd.ntmps34
      go_wp2
      go_quiet ((first | (go_at_call 43; exact quiet_left (in_any _ _ _ _))))
      go_wp2
      go_ret
      exact ⟨ret_bool hv.symm, (by repeat' (first | (with_reducible exact Below.refl _ _) | (with_reducible assumption) | (with_reducible refine Below.setCell ?_ ?_ _) | (with_reducible refine Below.alloc ?_ ?_ _) | (with_reducible refine Below.drew ?_) | (with_reducible refine below_drewN ?_ _) | (with_reducible refine Below.trans ?_ (Below.mono (by with_reducible assumption) ?_)) | go_size | (simp at *; omega)))⟩
    · obtain ⟨d0, d1⟩ := inR_iff.1 hd
      obtain ⟨n0, n1⟩ := inR_iff.1 hn
      have hv : vQ n d = (gI (ab n) d == 1) := by
        have : gI (ab n) d = gI n d := by unfold gI ab Int.gcd; simp
        rw [this]; simp [vQ, hn, hd]
      have a0 := ab_nonneg n
      have a1 : ab n ≤ 1000000000 := by unfold ab; omega
      go_enter Tryd.func34, Tryd.ntmps34
      go_wp2
      go_quiet ((first | (go_at_call 43; exact quiet_left (in_any _ _ _ _)) | (go_at_call 45; exact quiet_left (size_any _ _ (by omega))) | (go_at_call 44; exact quiet_left (l02Gcd_any _ _ _ (by omega) (by omega) (by omega) (by omega)))))
      go_wp2
      go_ret
      exact ⟨ret_bool hv.symm, (by repeat' (first | (with_reducible exact Below.refl _ _) | (with_reducible assumption) | (with_reducible refine Below.setCell ?_ ?_ _) | (with_reducible refine Below.alloc ?_ ?_ _) | (with_reducible refine Below.drew ?_) | (with_reducible refine below_drewN ?_ _) | (with_reducible refine Below.trans ?_ (Below.mono (by with_reducible assumption) ?_)) | go_size | (simp at *; omega)))⟩
theorem plainQ_eq (a b : Int) : plainQ a b = if vQ (lowN a b) (lowD a b) = true then (⟨lowN a b, lowD a b⟩, 0) else (⟨0, 0⟩, 5) := rfl
theorem plainOf_any (a b : Int) (w : World) (ha : -9000000000000000000 ≤ a ∧ a ≤ 9000000000000000000) (hb : -9000000000000000000 ≤ b ∧ b ≤ 9000000000000000000) (h0 : b ≠ 0) :
    Calls Tryd.prog 33 #[.int .i64 a, .int .i64 b] w fun e w' => e = .returned (.tuple #[.agg #[.int .i64 (plainQ a b).1.n, .int .i64 (plainQ a b).1.d], .int .i64 (plainQ a b).2]) ∧ Below w.heap.size w w' := by
  have g1 : 1 ≤ gI a b := gI_pos (.inr h0)
  have g2 : gI a b ≤ 9000000000000000000 := by
    have h1 := gI_le (a := a) h0
    have h2 : ab b ≤ 9000000000000000000 := by unfold ab; omega
    omega
  have da := gI_dvd_left a b
  have db := gI_dvd_right a b
  have HF := Lib.hid (plainQ_eq a b)
  by_cases hs : b < 0
  · have eN : lowN a b = (-a) / gI a b := by simp [lowN, hs]
    have eD : lowD a b = (-b) / gI a b := by simp [lowD, hs]
    have e1 : a.tdiv (-gI a b) = lowN a b := by rw [eN, tdiv_neg, tdiv_dvd da, neg_div_dvd da]
    have e2 : b.tdiv (-gI a b) = lowD a b := by rw [eD, tdiv_neg, tdiv_dvd db, neg_div_dvd db]
    have bN : -9000000000000000000 ≤ lowN a b ∧ lowN a b ≤ 9000000000000000000 := by rw [eN]; exact div_abs g1 (Int.dvd_neg.2 da) (by omega)
    have bD : -9000000000000000000 ≤ lowD a b ∧ lowD a b ≤ 9000000000000000000 := by rw [eD]; exact div_abs g1 (Int.dvd_neg.2 db) (by omega)
    clear eN eD da db
    have HG := Lib.hid (rfl : gI a b = gI a b)
    generalize lowN a b = N at *
    generalize lowD a b = D at *
    obtain ⟨n1, n2⟩ := bN
    obtain ⟨d1, d2⟩ := bD
    cases hv : vQ N D
    all_goals
      go_enter Tryd.func33, Tryd.ntmps33
      go_wp2_with (go_at_call 35; refine (gcd_any _ _ _ (by omega) (by omega) (by omega) (by omega)).mono ?_; rintro e w1 ⟨rfl, nn, rfl⟩)
      go_region
      all_goals
        go_wp2_with (go_at_call 32; refine (validFraction_any _ _ _ (by omega) (by omega)).mono ?_; rintro e w1 ⟨rfl, hb1⟩; obtain ⟨hc1, hf1, -, hB1⟩ := bcell hb1; have hz1 := hb1.size; (try simp at hz1); (try have hk0 : w.heap.size < w1.heap.size := by omega); (try have hk1 : w.heap.size + 1 < w1.heap.size := by omega); (try have hk2 : w.heap.size + 1 + 1 < w1.heap.size := by omega))
        apply body_row2 (w.heap.size) 32 Tryd.results33 Tryd.underlying32 rfl rfl rfl; (case q => simp (disch := (first | omega | (simp; done) | (simp; omega))) [*]; try rfl); (case hi => kernel_rfl)
        exact ⟨by rw [HF.out]; simp [hv], (by repeat' (first | (with_reducible exact Below.refl _ _) | (with_reducible assumption) | (with_reducible refine Below.setCell ?_ ?_ _) | (with_reducible refine Below.alloc ?_ ?_ _) | (with_reducible refine Below.drew ?_) | (with_reducible refine below_drewN ?_ _) | (with_reducible refine Below.trans ?_ (Below.mono (by with_reducible assumption) ?_)) | go_size | (simp at *; omega)))⟩
  · have eN : lowN a b = a / gI a b := by simp [lowN, hs]
    have eD : lowD a b = b / gI a b := by simp [lowD, hs]
    have e1 : a.tdiv (gI a b) = lowN a b := by rw [eN, tdiv_dvd da]
    have e2 : b.tdiv (gI a b) = lowD a b := by rw [eD, tdiv_dvd db]
    have e3 : a / gI a b = lowN a b := eN.symm
    have e4 : b / gI a b = lowD a b := eD.symm
    have bN : -9000000000000000000 ≤ lowN a b ∧ lowN a b ≤ 9000000000000000000 := by rw [eN]; exact div_abs g1 da (by omega)
    have bD : -9000000000000000000 ≤ lowD a b ∧ lowD a b ≤ 9000000000000000000 := by rw [eD]; exact div_abs g1 db (by omega)
    clear eN eD da db
    generalize lowN a b = N at *
    generalize lowD a b = D at *
    obtain ⟨n1, n2⟩ := bN
    obtain ⟨d1, d2⟩ := bD
    cases hv : vQ N D
    all_goals
      go_enter Tryd.func33, Tryd.ntmps33
      go_wp2_with (go_at_call 35; refine (gcd_any _ _ _ (by omega) (by omega) (by omega) (by omega)).mono ?_; rintro e w1 ⟨rfl, nn, rfl⟩)
      go_region
      all_goals
        go_wp2_with (go_at_call 32; refine (validFraction_any _ _ _ (by omega) (by omega)).mono ?_; rintro e w1 ⟨rfl, hb1⟩; obtain ⟨hc1, hf1, -, hB1⟩ := bcell hb1; have hz1 := hb1.size; (try simp at hz1); (try have hk0 : w.heap.size < w1.heap.size := by omega); (try have hk1 : w.heap.size + 1 < w1.heap.size := by omega); (try have hk2 : w.heap.size + 1 + 1 < w1.heap.size := by omega))
        apply body_row2 (w.heap.size) 32 Tryd.results33 Tryd.underlying32 rfl rfl rfl; (case q => simp (disch := (first | omega | (simp; done) | (simp; omega))) [*]; try rfl); (case hi => kernel_rfl)
        exact ⟨by rw [HF.out]; simp [hv], (by repeat' (first | (with_reducible exact Below.refl _ _) | (with_reducible assumption) | (with_reducible refine Below.setCell ?_ ?_ _) | (with_reducible refine Below.alloc ?_ ?_ _) | (with_reducible refine Below.drew ?_) | (with_reducible refine below_drewN ?_ _) | (with_reducible refine Below.trans ?_ (Below.mono (by with_reducible assumption) ?_)) | go_size | (simp at *; omega)))⟩
theorem l02Make_any (a b : Int) (w : World) (ha : -9000000000000000000 ≤ a ∧ a ≤ 9000000000000000000) (hb : 0 < b) (hb' : b ≤ 9000000000000000000) :
    Calls Tryd.prog 42 #[.int .i64 a, .int .i64 b] w fun e w' => e = .returned (.agg #[.int .i64 (a / gI a b), .int .i64 (b / gI a b)]) ∧ Below w.heap.size w w' := by
  have g1 : 1 ≤ gI a b := gI_pos (.inr (by omega))
  have g2 : gI a b ≤ 9000000000000000000 := by
    have h1 := gI_le (a := a) (b := b) (by omega)
    have h2 : ab b ≤ 9000000000000000000 := by unfold ab; omega
    omega
  have a0 := ab_nonneg a
  have a1 : ab a ≤ 9000000000000000000 := by unfold ab; omega
  have eg : gI (ab a) b = gI a b := by unfold gI ab Int.gcd; simp
  have da := gI_dvd_left a b
  have db := gI_dvd_right a b
  obtain ⟨n1, n2⟩ := div_abs g1 da ha
  obtain ⟨d1, d2⟩ := div_abs g1 db (by omega)
  have e1 : a.tdiv (gI a b) = a / gI a b := tdiv_dvd da
  have e2 : b.tdiv (gI a b) = b / gI a b := tdiv_dvd db
  clear da db
  go_enter Tryd.func42, Tryd.ntmps42
  go_wp2_with (first | (go_at_call 45; refine (size_any _ _ (by omega)).mono ?_; rintro e w1 ⟨rfl, rfl⟩) | (go_at_call 44; refine (l02Gcd_any _ _ _ (by omega) (by omega) (by omega) (by omega)).mono ?_; rintro e w1 ⟨rfl, rfl⟩; try rw [eg]))
  go_region
  all_goals
    go_wp2
    go_returns
    exact ⟨rfl, (by repeat' (first | (with_reducible exact Below.refl _ _) | (with_reducible assumption) | (with_reducible refine Below.setCell ?_ ?_ _) | (with_reducible refine Below.alloc ?_ ?_ _) | (with_reducible refine Below.drew ?_) | (with_reducible refine below_drewN ?_ _) | (with_reducible refine Below.trans ?_ (Below.mono (by with_reducible assumption) ?_)) | go_size | (simp at *; omega)))⟩
theorem l02Full_any (a b : Int) (w : World) (ha : -9000000000000000000 ≤ a ∧ a ≤ 9000000000000000000) (hb : -9000000000000000000 ≤ b ∧ b ≤ 9000000000000000000) (h0 : b ≠ 0) :
    Calls Tryd.prog 31 #[.int .i64 a, .int .i64 b] w fun e w' => e = .returned (.tuple #[.agg #[.int .i64 (plainQ a b).1.n, .int .i64 (plainQ a b).1.d], .int .i64 (plainQ a b).2]) ∧ Below w.heap.size w w' := by
  have g1 : 1 ≤ gI a b := gI_pos (.inr h0)
  have da := gI_dvd_left a b
  have db := gI_dvd_right a b
  have HF := Lib.hid (plainQ_eq a b)
  by_cases hs : b < 0
  · have eN : (-a) / gI (-a) (-b) = lowN a b := by rw [gI_neg, gI_neg']; simp [lowN, hs]
    have eD : (-b) / gI (-a) (-b) = lowD a b := by rw [gI_neg, gI_neg']; simp [lowD, hs]
    have bN : -9000000000000000000 ≤ lowN a b ∧ lowN a b ≤ 9000000000000000000 := by rw [← eN, gI_neg, gI_neg']; exact div_abs g1 (Int.dvd_neg.2 da) (by omega)
    have bD : -9000000000000000000 ≤ lowD a b ∧ lowD a b ≤ 9000000000000000000 := by rw [← eD, gI_neg, gI_neg']; exact div_abs g1 (Int.dvd_neg.2 db) (by omega)
    clear da db
    generalize lowN a b = N at *
    generalize lowD a b = D at *
    obtain ⟨n1, n2⟩ := bN
    obtain ⟨d1, d2⟩ := bD
    cases hv : vQ N D
    all_goals
      go_enter Tryd.func31, Tryd.ntmps31
      go_wp2_with (first | (go_at_call 42; refine (l02Make_any _ _ _ (by omega) (by omega) (by omega)).mono ?_; rintro e w1 ⟨rfl, hb1⟩; obtain ⟨hc1, hf1, -, hB1⟩ := bcell hb1; have hz1 := hb1.size; (try simp at hz1); (try have hk0 : w.heap.size < w1.heap.size := by omega); (try have hk1 : w.heap.size + 1 < w1.heap.size := by omega); (try have hk2 : w.heap.size + 1 + 1 < w1.heap.size := by omega)) | (go_at_call 34; refine (l02Ok_any _ _ _ (by omega) (by omega)).mono ?_; rintro e w1 ⟨rfl, hb1⟩; obtain ⟨hc1, hf1, -, hB1⟩ := bcell hb1; have hz1 := hb1.size; (try simp at hz1); (try have hk0 : w.heap.size < w1.heap.size := by omega); (try have hk1 : w.heap.size + 1 < w1.heap.size := by omega); (try have hk2 : w.heap.size + 1 + 1 < w1.heap.size := by omega)))
      apply body_row2 (w.heap.size) 32 Tryd.results31 Tryd.underlying32 rfl rfl rfl; (case q => simp (disch := (first | omega | (simp; done) | (simp; omega))) [*]; try rfl); (case hi => kernel_rfl)
      exact ⟨by rw [HF.out]; simp [hv], (by repeat' (first | (with_reducible exact Below.refl _ _) | (with_reducible assumption) | (with_reducible refine Below.setCell ?_ ?_ _) | (with_reducible refine Below.alloc ?_ ?_ _) | (with_reducible refine Below.drew ?_) | (with_reducible refine below_drewN ?_ _) | (with_reducible refine Below.trans ?_ (Below.mono (by with_reducible assumption) ?_)) | go_size | (simp at *; omega)))⟩
  · have eN : a / gI a b = lowN a b := by simp [lowN, hs]
    have eD : b / gI a b = lowD a b := by simp [lowD, hs]
    have bN : -9000000000000000000 ≤ lowN a b ∧ lowN a b ≤ 9000000000000000000 := by rw [← eN]; exact div_abs g1 da (by omega)
    have bD : -9000000000000000000 ≤ lowD a b ∧ lowD a b ≤ 9000000000000000000 := by rw [← eD]; exact div_abs g1 db (by omega)
    clear da db
    generalize lowN a b = N at *
    generalize lowD a b = D at *
    obtain ⟨n1, n2⟩ := bN
    obtain ⟨d1, d2⟩ := bD
    cases hv : vQ N D
    all_goals
      go_enter Tryd.func31, Tryd.ntmps31
      go_wp2_with (first | (go_at_call 42; refine (l02Make_any _ _ _ (by omega) (by omega) (by omega)).mono ?_; rintro e w1 ⟨rfl, hb1⟩; obtain ⟨hc1, hf1, -, hB1⟩ := bcell hb1; have hz1 := hb1.size; (try simp at hz1); (try have hk0 : w.heap.size < w1.heap.size := by omega); (try have hk1 : w.heap.size + 1 < w1.heap.size := by omega); (try have hk2 : w.heap.size + 1 + 1 < w1.heap.size := by omega)) | (go_at_call 34; refine (l02Ok_any _ _ _ (by omega) (by omega)).mono ?_; rintro e w1 ⟨rfl, hb1⟩; obtain ⟨hc1, hf1, -, hB1⟩ := bcell hb1; have hz1 := hb1.size; (try simp at hz1); (try have hk0 : w.heap.size < w1.heap.size := by omega); (try have hk1 : w.heap.size + 1 < w1.heap.size := by omega); (try have hk2 : w.heap.size + 1 + 1 < w1.heap.size := by omega)))
      apply body_row2 (w.heap.size) 32 Tryd.results31 Tryd.underlying32 rfl rfl rfl; (case q => simp (disch := (first | omega | (simp; done) | (simp; omega))) [*]; try rfl); (case hi => kernel_rfl)
      exact ⟨by rw [HF.out]; simp [hv], (by repeat' (first | (with_reducible exact Below.refl _ _) | (with_reducible assumption) | (with_reducible refine Below.setCell ?_ ?_ _) | (with_reducible refine Below.alloc ?_ ?_ _) | (with_reducible refine Below.drew ?_) | (with_reducible refine below_drewN ?_ _) | (with_reducible refine Below.trans ?_ (Below.mono (by with_reducible assumption) ?_)) | go_size | (simp at *; omega)))⟩
end Go.Proofs.YtfnjboaocalidaaDoor
