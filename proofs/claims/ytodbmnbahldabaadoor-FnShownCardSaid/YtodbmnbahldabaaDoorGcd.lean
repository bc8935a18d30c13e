/- The greatest common divisor, absolute values, quotients rounded down: both packages. -/
import Derived.Test.YtodbmnbahldabaaDoorBase
namespace Go.Proofs.YtodbmnbahldabaaDoor
open Go.ChangeShapes Go.WideShapes Go.ChangeAt Go.RowKit
set_option linter.unusedVariables false
set_option maxHeartbeats 1000000

/-- The absolute value. -/
def ab (n : Int) : Int := (n.natAbs : Int)
theorem ab_neg {n : Int} (h : n < 0) : ab n = -n := by unfold ab; omega
theorem ab_pos {n : Int} (h : 0 ≤ n) : ab n = n := by unfold ab; omega
theorem ab_nonneg (n : Int) : 0 ≤ ab n := by unfold ab; omega
/-- The greatest common divisor, as an integer. -/
def gI (a b : Int) : Int := (Int.gcd a b : Int)
theorem gI_nonneg (a b : Int) : 0 ≤ gI a b := by unfold gI; omega
theorem gI_ab (a b : Int) : gI (ab a) (ab b) = gI a b := by
  unfold gI ab Int.gcd
  simp
theorem gI_comm (a b : Int) : gI a b = gI b a := by unfold gI; rw [Int.gcd_comm]
theorem gI_neg (a b : Int) : gI (-a) b = gI a b := by unfold gI; simp
theorem gI_neg' (a b : Int) : gI a (-b) = gI a b := by unfold gI; simp
theorem gI_dvd_left (a b : Int) : gI a b ∣ a := by unfold gI; exact Int.gcd_dvd_left ..
theorem gI_dvd_right (a b : Int) : gI a b ∣ b := by unfold gI; exact Int.gcd_dvd_right ..
theorem gI_pos {a b : Int} (h : a ≠ 0 ∨ b ≠ 0) : 1 ≤ gI a b := by
  have : 0 < Int.gcd a b := Int.gcd_pos_iff.2 h
  unfold gI; omega
theorem gI_step {a b : Int} (ha : 0 ≤ a) (hb : 0 < b) : gI b (a % b) = gI a b := by
  obtain ⟨m, rfl⟩ := Int.eq_ofNat_of_zero_le ha
  obtain ⟨n, rfl⟩ := Int.eq_ofNat_of_zero_le (Int.le_of_lt hb)
  unfold gI Int.gcd
  rw [← Int.natCast_emod]
  simp only [Int.natAbs_natCast]
  rw [Nat.gcd_comm n (m % n), Nat.gcd_comm m n, Nat.gcd_rec n m]
theorem gI_zero {a : Int} (ha : 0 ≤ a) : gI a 0 = a := by unfold gI Int.gcd; simp; omega
theorem gI_le {a b : Int} (hb : b ≠ 0) : gI a b ≤ ab b := by
  have h := gI_dvd_right a b
  have h2 : gI a b ∣ ab b := by unfold ab; exact Int.dvd_natAbs.2 h
  exact Int.le_of_dvd (by unfold ab; omega) h2

/-- A quotient rounded down. -/
def fl (a b : Int) : Int := if 0 < b then a / b else (-a) / (-b)
theorem div_unique {a b q : Int} (hb : 0 < b) (h1 : b * q ≤ a) (h2 : a < b * q + b) : a / b = q := by
  have e := Int.mul_ediv_add_emod a b
  have m0 := Int.emod_nonneg a (by omega : b ≠ 0)
  have m1 := Int.emod_lt_of_pos a hb
  rcases Int.lt_trichotomy (a / b) q with h | h | h
  · have : b * (a / b + 1) ≤ b * q := Int.mul_le_mul_of_nonneg_left (by omega) (by omega)
    rw [Int.mul_add] at this
    omega
  · exact h
  · have : b * (q + 1) ≤ b * (a / b) := Int.mul_le_mul_of_nonneg_left (by omega) (by omega)
    rw [Int.mul_add] at this
    omega
/-- Go's quotient and remainder, by the signs. -/
theorem tdiv_pp {a b : Int} (ha : 0 ≤ a) : a.tdiv b = a / b := Int.tdiv_eq_ediv_of_nonneg ha
theorem tmod_pp {a b : Int} (ha : 0 ≤ a) : a.tmod b = a % b := Int.tmod_eq_emod_of_nonneg ha
theorem tdiv_np {a b : Int} (ha : a < 0) : a.tdiv b = -((-a) / b) := by
  have : a = -(-a) := by omega
  rw [this, Int.neg_tdiv, Int.tdiv_eq_ediv_of_nonneg (by omega)]; simp
theorem tmod_np {a b : Int} (ha : a < 0) : a.tmod b = -((-a) % b) := by
  have : a = -(-a) := by omega
  rw [this, Int.neg_tmod, Int.tmod_eq_emod_of_nonneg (by omega)]; simp
theorem tdiv_neg {a b : Int} : a.tdiv (-b) = -(a.tdiv b) := Int.tdiv_neg ..
theorem tmod_neg {a b : Int} : a.tmod (-b) = a.tmod b := Int.tmod_neg ..
/-- Rounding down, out of Go's quotient and remainder; a positive divisor. -/
theorem fl_up {a b : Int} (ha : 0 ≤ a) (hb : 0 < b) : a / b = a.tdiv b := (tdiv_pp ha).symm
theorem fl_down {a b : Int} (ha : a < 0) (hb : 0 < b) : a / b = if a.tmod b = 0 then a.tdiv b else a.tdiv b - 1 := by
  rw [tdiv_np ha, tmod_np ha]
  have e := Int.mul_ediv_add_emod (-a) b
  have m0 := Int.emod_nonneg (-a) (by omega : b ≠ 0)
  have m1 := Int.emod_lt_of_pos (-a) hb
  split
  · rename_i h
    refine div_unique hb ?_ ?_ <;> rw [Int.mul_neg] <;> omega
  · rename_i h
    refine div_unique hb ?_ ?_ <;> rw [Int.mul_sub, Int.mul_neg] <;> omega
/-- An exact quotient is the same by either way. -/
theorem tdiv_dvd {a b : Int} (h : b ∣ a) : a.tdiv b = a / b := Int.tdiv_eq_ediv_of_dvd h
theorem neg_div_dvd {a b : Int} (h : b ∣ a) : (-a) / b = -(a / b) := Int.neg_ediv_of_dvd h
theorem fl_bound {a b : Int} (hb : b ≠ 0) : -(ab a) ≤ fl a b ∧ fl a b ≤ ab a := by
  have key : ∀ x y : Int, 0 < y → -(ab x) ≤ x / y ∧ x / y ≤ ab x := by
    intro x y hy
    rcases Int.lt_or_le x 0 with h | h
    · have h1 : x / y < 0 := Int.ediv_neg_of_neg_of_pos h hy
      have h2 : x ≤ x / y := by
        have h3 : x / y * y ≥ x - y + 1 := by
          have e := Int.mul_ediv_add_emod x y
          have := Int.emod_lt_of_pos x hy
          rw [Int.mul_comm] at e
          omega
        have h4 : x / y * y ≤ x / y * 1 := Int.mul_le_mul_of_nonpos_left (by omega) (by omega)
        have e := Int.mul_ediv_add_emod x y
        have m0 := Int.emod_nonneg x (by omega : y ≠ 0)
        rcases Int.lt_or_le (x / y) x with h5 | h5
        · have h6 : y * (x / y) ≤ y * (x - 1) := Int.mul_le_mul_of_nonneg_left (by omega) (by omega)
          have m1 := Int.emod_lt_of_pos x hy
          rw [Int.mul_sub] at h6
          have h7 : y * x ≤ 1 * x := Int.mul_le_mul_of_nonpos_right (by omega) (by omega)
          omega
        · exact h5
      rw [ab_neg h]; omega
    · have h1 := Int.ediv_nonneg h (Int.le_of_lt hy)
      have h2 := Int.ediv_le_self y h
      rw [ab_pos h]; omega
  unfold fl
  split
  · exact key a b (by assumption)
  · have := key (-a) (-b) (by omega)
    rwa [show ab (-a) = ab a from by unfold ab; omega] at this

theorem abs_any (n : Int) (w : World) (h : -9223372036854775808 < n) :
    Calls Tryd.prog 62 #[.int .i64 n] w fun e w' => e = .returned (.int .i64 (ab n)) ∧ w = w' := by
  by_cases hn : n < 0
  · go_enter Tryd.func62, Tryd.ntmps62
    go_wp2
    go_ret
    exact ⟨ret_int (ab_neg hn).symm, rfl⟩
  · go_enter Tryd.func62, Tryd.ntmps62
    go_wp2
    go_ret
    exact ⟨ret_int (ab_pos (by omega)).symm, rfl⟩
theorem size_any (n : Int) (w : World) (h : -9223372036854775808 < n) :
    Calls Tryd.prog 66 #[.int .i64 n] w fun e w' => e = .returned (.int .i64 (ab n)) ∧ w = w' := by
  by_cases hn : n < 0
  · go_enter Tryd.func66, Tryd.ntmps66
    go_wp2
    go_ret
    exact ⟨ret_int (ab_neg hn).symm, rfl⟩
  · go_enter Tryd.func66, Tryd.ntmps66
    go_wp2
    go_ret
    exact ⟨ret_int (ab_pos (by omega)).symm, rfl⟩
theorem gcd_any (a b : Int) (w : World) (h1 : -9223372036854775808 < a) (h2 : -9223372036854775808 < b) (h3 : a ≤ 9223372036854775807) (h4 : b ≤ 9223372036854775807) :
    Calls Tryd.prog 68 #[.int .i64 a, .int .i64 b] w fun e w' => e = .returned (.int .i64 (gI a b)) ∧ ∃ n, w' = w.drewN n := by
  have a0 := ab_nonneg a
  have b0 := ab_nonneg b
  have a1 : ab a ≤ 9223372036854775807 := by unfold ab; omega
  have b1 : ab b ≤ 9223372036854775807 := by unfold ab; omega
  have HG : Hid (gI (ab a) (ab b) = gI a b) := Lib.hid (gI_ab a b)
  generalize hG : gI a b = G at HG ⊢
  clear hG
  go_enter Tryd.func68, Tryd.ntmps68
  go_wp2_with (go_at_call 62; refine (abs_any _ _ (by omega)).mono ?_; rintro e w1 ⟨rfl, rfl⟩)
  go_loopw [0, 1] (fun u v wr => ∃ x y : Int, u = .int .i64 x ∧ v = .int .i64 y ∧ 0 ≤ x ∧ 0 ≤ y ∧ x ≤ 9223372036854775807 ∧ y ≤ 9223372036854775807 ∧ Hid (gI x y = G) ∧ ∃ n, wr = w.drewN n) (fun u v wr => (intOf v).toNat)
  case atStart => exact ⟨_, _, rfl, rfl, a0, b0, a1, b1, HG, 0, rfl⟩
  case round =>
    obtain ⟨x, y, rfl, rfl, hx0, hy0, hx1, hy1, HX, nn, rfl⟩ := hrel
    by_cases hy : y = 0
    · subst hy
      have HE : Hid (x = G) := Lib.hid ((gI_zero hx0).symm.trans HX.out)
      go_wp2
      go_ret
      exact ⟨ret_int HE.out, _, rfl⟩
    · have hy2 : 1 ≤ y := by omega
      have t1 : 0 ≤ x % y := Int.emod_nonneg _ (by omega)
      have t2 : x % y < y := Int.emod_lt_of_pos _ (by omega)
      have HS := Lib.hid ((gI_step hx0 (by omega : 0 < y)).trans HX.out)
      clear hy
      go_wp2
      go_quiet (fail)
      go_wp2
      go_roundw
      case rel => exact ⟨y, x % y, rfl, rfl, hy0, t1, hy1, by omega, HS, nn + nq, by rw [World.drewN_drewN]⟩
      case measure => simp [intOf]; omega
theorem l02Gcd_any (a b : Int) (w : World) (a0 : 0 ≤ a) (b0 : 0 ≤ b) (a1 : a ≤ 9223372036854775807) (b1 : b ≤ 9223372036854775807) :
    Calls Tryd.prog 73 #[.int .i64 a, .int .i64 b] w fun e w' => e = .returned (.int .i64 (gI a b)) ∧ w = w' := by
  generalize hG : gI a b = G
  have HG : Hid (gI a b = G) := Lib.hid hG
  clear hG
  go_enter Tryd.func73, Tryd.ntmps73
  go_wp2
  go_loop [0, 1, 5] (fun u v t => ∃ x y : Int, u = .int .i64 x ∧ v = .int .i64 y ∧ 0 ≤ x ∧ 0 ≤ y ∧ x ≤ 9223372036854775807 ∧ y ≤ 9223372036854775807 ∧ Hid (gI x y = G)) (fun u v t => (intOf v).toNat)
  case atStart => exact ⟨_, _, rfl, rfl, a0, b0, a1, b1, HG⟩
  case round =>
    obtain ⟨x, y, rfl, rfl, hx0, hy0, hx1, hy1, HX⟩ := hrel
    by_cases hy : y = 0
    · subst hy
      have HE : Hid (x = G) := Lib.hid ((gI_zero hx0).symm.trans HX.out)
      go_wp2
      go_ret
      exact ⟨ret_int HE.out, rfl⟩
    · have hy2 : 1 ≤ y := by omega
      have t1 : 0 ≤ x % y := Int.emod_nonneg _ (by omega)
      have t2 : x % y < y := Int.emod_lt_of_pos _ (by omega)
      have HS := Lib.hid ((gI_step hx0 (by omega : 0 < y)).trans HX.out)
      clear hy
      go_wp2
      go_round
      case rel => exact ⟨y, x % y, rfl, rfl, hy0, t1, hy1, by omega, HS⟩
      case measure => simp [intOf]; omega
end Go.Proofs.YtodbmnbahldabaaDoor
