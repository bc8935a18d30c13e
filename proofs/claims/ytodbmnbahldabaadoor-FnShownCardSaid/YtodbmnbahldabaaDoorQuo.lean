/- Quotients rounded down, and remainders that are not negative: both packages. -/
import Derived.Test.YtodbmnbahldabaaDoorGcd
namespace Go.Proofs.YtodbmnbahldabaaDoor
open Go.ChangeShapes Go.WideShapes Go.ChangeAt Go.RowKit
set_option linter.unusedVariables false
set_option maxHeartbeats 1000000
theorem floorDiv_any (a b : Int) (w : World) (ha : -9000000000000000000 ≤ a ∧ a ≤ 9000000000000000000) (hb : -9000000000000000000 ≤ b ∧ b ≤ 9000000000000000000) (h0 : b ≠ 0) :
    Calls Tryd.prog 76 #[.int .i64 a, .int .i64 b] w fun e w' => e = .returned (.int .i64 (fl a b)) ∧ w = w' := by
  have hbd := fl_bound (a := a) h0
  have hab : ab a ≤ 9000000000000000000 := by unfold ab; omega
  rcases Int.lt_or_le 0 b with hb0 | hb0
  · have nb : decide (b < 0) = false := by simp; omega
    rcases Int.lt_or_le a 0 with ha0 | ha0
    · have e := fl_down ha0 hb0
      have ef : fl a b = a / b := by simp [fl, hb0]
      by_cases hm : a.tmod b = 0
      · have e1 : a.tdiv b = fl a b := by rw [ef, e, if_pos hm]
        have hm' : (a.tmod b != 0) = false := by simp [hm]
        clear e ef hm
        generalize fl a b = F at *
        go_enter Tryd.func76, Tryd.ntmps76
        go_wp2
        go_ret
        exact ⟨rfl, rfl⟩
      · have e1 : a.tdiv b = fl a b + 1 := by rw [ef, e, if_neg hm]; omega
        have hm' : (a.tmod b != 0) = true := by simp [hm]
        clear e ef hm
        generalize fl a b = F at *
        go_enter Tryd.func76, Tryd.ntmps76
        go_wp2
        go_ret
        exact ⟨ret_int (by omega), rfl⟩
    · have na : decide (a < 0) = false := by simp; omega
      have ef : a / b = fl a b := by simp [fl, hb0]
      have e1 : a.tdiv b = fl a b := by rw [tdiv_pp ha0, ef]
      generalize fl a b = F at *
      cases hm : (a % b != 0)
      all_goals
        go_enter Tryd.func76, Tryd.ntmps76
        go_wp2
        go_ret
        exact ⟨rfl, rfl⟩
  · have hb1 : 0 < -b := by omega
    have eb : b = -(-b) := by omega
    have ef : fl a b = (-a) / (-b) := by simp only [fl]; rw [if_neg (by omega)]
    have nb : decide (b < 0) = true := by simp; omega
    rcases Int.lt_or_le a 0 with ha0 | ha0
    · have e1 : a.tdiv b = fl a b := by
        rw [ef, tdiv_np ha0, Int.ediv_neg]
      clear ef eb
      generalize fl a b = F at *
      cases hm : (a.tmod b != 0)
      all_goals
        go_enter Tryd.func76, Tryd.ntmps76
        go_wp2
        go_ret
        exact ⟨rfl, rfl⟩
    · have na : decide (a < 0) = false := by simp; omega
      rcases Int.lt_or_le 0 a with ha1 | ha1
      · have e := fl_down (a := -a) (b := -b) (by omega) hb1
        have et : (-a).tdiv (-b) = a.tdiv b := by rw [Int.tdiv_neg, Int.neg_tdiv, Int.neg_neg]
        have em : (-a).tmod (-b) = -(a.tmod b) := by rw [Int.tmod_neg, Int.neg_tmod]
        rw [et, em] at e
        by_cases hm : a.tmod b = 0
        · have e1 : a.tdiv b = fl a b := by rw [ef, e, if_pos (by omega)]
          have hm1 : (a.tmod b != 0) = false := by simp [hm]
          have hm2 : (a % b != 0) = false := by rw [← tmod_pp ha0]; exact hm1
          clear e ef hm et em eb
          generalize fl a b = F at *
          go_enter Tryd.func76, Tryd.ntmps76
          go_wp2
          go_ret
          exact ⟨rfl, rfl⟩
        · have e1 : a.tdiv b = fl a b + 1 := by rw [ef, e, if_neg (by omega)]; omega
          have hm1 : (a.tmod b != 0) = true := by simp [hm]
          have hm2 : (a % b != 0) = true := by rw [← tmod_pp ha0]; exact hm1
          clear e ef hm et em eb
          generalize fl a b = F at *
          go_enter Tryd.func76, Tryd.ntmps76
          go_wp2
          go_ret
          exact ⟨ret_int (by omega), rfl⟩
      · have : a = 0 := by omega
        subst this
        have ef' : fl 0 b = 0 := by rw [ef]; simp
        clear ef eb na
        go_enter Tryd.func76, Tryd.ntmps76
        go_wp2
        go_ret
        exact ⟨ret_int (by simp [ef']), rfl⟩
theorem floorMod_any (a b : Int) (w : World) (ha : -4000000000000000000 ≤ a ∧ a ≤ 4000000000000000000) (hb : 0 < b ∧ b ≤ 4000000000000000000) :
    Calls Tryd.prog 61 #[.int .i64 a, .int .i64 b] w fun e w' => e = .returned (.int .i64 (a % b)) ∧ w = w' := by
  have m0 := Int.emod_nonneg a (by omega : b ≠ 0)
  have m1 := Int.emod_lt_of_pos a hb.1
  have e := Int.mul_ediv_add_emod a b
  have ef : fl a b = a / b := by simp only [fl]; rw [if_pos hb.1]
  rw [← ef] at e
  clear ef
  have h1 : a % b = a - b * fl a b := by omega
  have h2 : -9000000000000000000 ≤ b * fl a b ∧ b * fl a b ≤ 9000000000000000000 := by omega
  have h3 : -9000000000000000000 ≤ a - b * fl a b ∧ a - b * fl a b ≤ 9000000000000000000 := by omega
  have H := Lib.hid h1
  clear h1 e m0 m1
  go_enter Tryd.func61, Tryd.ntmps61
  go_wp2_with (go_at_call 76; refine (floorDiv_any _ _ _ (by omega) (by omega) (by omega)).mono ?_; rintro e w1 ⟨rfl, rfl⟩)
  go_ret
  exact ⟨ret_int H.out.symm, rfl⟩
theorem l02Mod_any (a b : Int) (w : World) (ha : -4000000000000000000 ≤ a ∧ a ≤ 4000000000000000000) (hb : 0 < b ∧ b ≤ 4000000000000000000) :
    Calls Tryd.prog 65 #[.int .i64 a, .int .i64 b] w fun e w' => e = .returned (.int .i64 (a % b)) ∧ w = w' := by
  have m0 := Int.emod_nonneg a (by omega : b ≠ 0)
  have m1 := Int.emod_lt_of_pos a hb.1
  have t1 : -b < a.tmod b ∧ a.tmod b < b := by
    rcases Int.lt_or_le a 0 with h | h
    · rw [tmod_np h]
      have q0 := Int.emod_nonneg (-a) (by omega : b ≠ 0)
      have q1 := Int.emod_lt_of_pos (-a) hb.1
      omega
    · rw [tmod_pp h]; omega
  have h1 : (a.tmod b + b).tmod b = a % b := by
    rw [Int.tmod_eq_emod_of_nonneg (by omega), Int.add_emod_right, Int.tmod_eq_emod]
    split
    · simp
    · rw [Int.sub_emod, Int.emod_emod]
      have : ((b.natAbs : Int)) % b = 0 := by
        rw [Int.natAbs_of_nonneg (by omega)]; exact Int.emod_self
      rw [this, Int.sub_zero, Int.emod_emod]
  have hn : ¬ b = 0 := by omega
  rcases Int.lt_or_le a 0 with h | h
  · go_enter Tryd.func65, Tryd.ntmps65
    go_wp2
    go_ret
    exact ⟨rfl, rfl⟩
  · rw [tmod_pp h] at h1 t1
    have H := Lib.hid h1
    clear h1
    go_enter Tryd.func65, Tryd.ntmps65
    go_wp2
    go_ret
    exact ⟨ret_int (by have := H.out; rw [Int.tmod_eq_emod_of_nonneg (by omega)] at this; exact this), rfl⟩
end Go.Proofs.YtodbmnbahldabaaDoor
