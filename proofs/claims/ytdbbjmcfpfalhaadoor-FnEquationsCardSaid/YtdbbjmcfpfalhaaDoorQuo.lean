/- Quotients rounded down, and remainders that are not negative: both packages. -/
import Derived.Test.YtdbbjmcfpfalhaaDoorGcd
namespace Go.Proofs.YtdbbjmcfpfalhaaDoor
open Go.ChangeShapes Go.WideShapes Go.ChangeAt Go.RowKit
set_option linter.unusedVariables false
set_option maxHeartbeats 1000000
theorem floorDiv_any (a b : Int) (w : World) (ha : -9000000000000000000 ≤ a ∧ a ≤ 9000000000000000000) (hb : -9000000000000000000 ≤ b ∧ b ≤ 9000000000000000000) (h0 : b ≠ 0) :
    Calls Tryd.prog 88 #[.int .i64 a, .int .i64 b] w fun e w' => e = .returned (.int .i64 (fl a b)) ∧ w = w' := by
  have hbd := fl_bound (a := a) h0
  have hab : ab a ≤ 9000000000000000000 := by unfold ab; omega
  rcases Int.lt_or_le 0 b with hb0 | hb0
  · have nb : decide (b < 0) = false := by simp; omega
    rcases Int.lt_or_le a 0 with ha0 | ha0
    · have e := fl_down ha0 hb0
      have ef : fl a b = a / b := by simp [fl, hb0]
      by_cases hm : a.tmod b = 0
      · have e1 : a.tdiv b = fl a b := by rw [ef, e, if_pos hm]
        have hm' : (a.tmod b != 0) = false := by simp [hm]
        clear e ef hm
        generalize fl a b = F at *
        go_enter Tryd.func88, Tryd.ntmps88
        go_wp2
        go_ret
        exact ⟨rfl, rfl⟩
      · have e1 : a.tdiv b = fl a b + 1 := by rw [ef, e, if_neg hm]; omega
        have hm' : (a.tmod b != 0) = true := by simp [hm]
        clear e ef hm
        generalize fl a b = F at *
        go_enter Tryd.func88, Tryd.ntmps88
        go_wp2
        go_ret
        exact ⟨ret_int (by omega), rfl⟩
    · have na : decide (a < 0) = false := by simp; omega
      have ef : a / b = fl a b := by simp [fl, hb0]
      have e1 : a.tdiv b = fl a b := by rw [tdiv_pp ha0, ef]
      generalize fl a b = F at *
      cases hm : (a % b != 0)
      all_goals
        go_enter Tryd.func88, Tryd.ntmps88
        go_wp2
        go_ret
        exact ⟨rfl, rfl⟩
  · have hb1 : 0 < -b := by omega
    have eb : b = -(-b) := by omega
    have ef : fl a b = (-a) / (-b) := by simp only [fl]; rw [if_neg (by omega)]
    have nb : decide (b < 0) = true := by simp; omega
    rcases Int.lt_or_le a 0 with ha0 | ha0
    · have e1 : a.tdiv b = fl a b := by
        rw [ef, tdiv_np ha0, Int.ediv_neg]
      clear ef eb
      generalize fl a b = F at *
      cases hm : (a.tmod b != 0)
      all_goals
        go_enter Tryd.func88, Tryd.ntmps88
        go_wp2
        go_ret
        exact ⟨rfl, rfl⟩
    · have na : decide (a < 0) = false := by simp; omega
      rcases Int.lt_or_le 0 a with ha1 | ha1
      · have e := fl_down (a := -a) (b := -b) (by omega) hb1
        have et : (-a).tdiv (-b) = a.tdiv b := by rw [Int.tdiv_neg, Int.neg_tdiv, Int.neg_neg]
        have em : (-a).tmod (-b) = -(a.tmod b) := by rw [Int.tmod_neg, Int.neg_tmod]
        rw [et, em] at e
        by_cases hm : a.tmod b = 0
        · have e1 : a.tdiv b = fl a b := by rw [ef, e, if_pos (by omega)]
          have hm1 : (a.tmod b != 0) = false := by simp [hm]
          have hm2 : (a % b != 0) = false := by rw [← tmod_pp ha0]; exact hm1
          clear e ef hm et em eb
          generalize fl a b = F at *
          go_enter Tryd.func88, Tryd.ntmps88
          go_wp2
          go_ret
          exact ⟨rfl, rfl⟩
        · have e1 : a.tdiv b = fl a b + 1 := by rw [ef, e, if_neg (by omega)]; omega
          have hm1 : (a.tmod b != 0) = true := by simp [hm]
          have hm2 : (a % b != 0) = true := by rw [← tmod_pp ha0]; exact hm1
          clear e ef hm et em eb
          generalize fl a b = F at *
          go_enter Tryd.func88, Tryd.ntmps88
          go_wp2
          go_ret
          exact ⟨ret_int (by omega), rfl⟩
      · have : a = 0 := by omega
        subst this
        have ef' : fl 0 b = 0 := by rw [ef]; simp
        clear ef eb na
        go_enter Tryd.func88, Tryd.ntmps88
        go_wp2
        go_ret
        exact ⟨ret_int (by simp [ef']), rfl⟩
theorem l02Floor_any (a b : Int) (w : World) (ha : -9000000000000000000 ≤ a ∧ a ≤ 9000000000000000000) (hb : b ≤ 9000000000000000000) (hb0 : 0 < b) :
    Calls Tryd.prog 85 #[.int .i64 a, .int .i64 b] w fun e w' => e = .returned (.int .i64 (fl a b)) ∧ w = w' := by
  have hbd := fl_bound (a := a) (b := b) (by omega)
  have hab : ab a ≤ 9000000000000000000 := by unfold ab; omega
  rcases Int.lt_or_le a 0 with ha0 | ha0
  · have e := fl_down ha0 hb0
    have ef : fl a b = a / b := by simp [fl, hb0]
    have hmn : a.tmod b ≤ 0 := by rw [tmod_np ha0]; have := Int.emod_nonneg (-a) (by omega : b ≠ 0); omega
    by_cases hm : a.tmod b = 0
    · have e1 : a.tdiv b = fl a b := by rw [ef, e, if_pos hm]
      have hm' : ¬ a.tmod b < 0 := by omega
      clear e ef hm hmn
      generalize fl a b = F at *
      go_enter Tryd.func85, Tryd.ntmps85
      go_wp2
      go_ret
      exact ⟨rfl, rfl⟩
    · have e1 : a.tdiv b = fl a b + 1 := by rw [ef, e, if_neg hm]; omega
      have hm' : a.tmod b < 0 := by omega
      clear e ef hm hmn
      generalize fl a b = F at *
      go_enter Tryd.func85, Tryd.ntmps85
      go_wp2
      go_ret
      exact ⟨ret_int (by omega), rfl⟩
  · have ef : a / b = fl a b := by simp [fl, hb0]
    have e1 : a.tdiv b = fl a b := by rw [tdiv_pp ha0, ef]
    have hm : ¬ a % b < 0 := by have := Int.emod_nonneg a (by omega : b ≠ 0); omega
    generalize fl a b = F at *
    go_enter Tryd.func85, Tryd.ntmps85
    go_wp2
    go_ret
    exact ⟨rfl, rfl⟩
end Go.Proofs.YtdbbjmcfpfalhaaDoor
