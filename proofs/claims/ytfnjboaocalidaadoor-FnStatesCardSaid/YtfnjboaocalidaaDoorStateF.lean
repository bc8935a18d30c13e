/- Joined states: both packages. -/
import Derived.Test.YtfnjboaocalidaaDoorStateC
import Derived.Test.YtfnjboaocalidaaDoorMem
import Derived.IntWalk
namespace Go.Proofs.YtfnjboaocalidaaDoor
open Go.ChangeShapes Go.WideShapes Go.ChangeAt Go.RowKit
set_option linter.unusedVariables false
set_option maxHeartbeats 2000000
/-- The common divisor of four numbers. -/
def gI4 (a b c d : Int) : Int := gI (gI a b) (gI c d)
def joinP (a b c d : Int) : St × Int := plainF (a / gI4 a b c d) (b / gI4 a b c d) (c / gI4 a b c d) (d / gI4 a b c d)
def joinF (a b c d e f g h : Int) : St × Int := if vS a b c d = true ∧ vS e f g h = true then joinP (a * e + b * g) (a * f + b * h) (c * e + d * g) (c * f + d * h) else (zS, 1)
theorem gI_pos' {a b : Int} (h : a ≠ 0 ∨ b ≠ 0) : gI a b ≠ 0 := by have := gI_pos h; omega
theorem gI4_pos {a b c d : Int} (h : ¬ (a = 0 ∧ b = 0 ∧ c = 0 ∧ d = 0)) : 1 ≤ gI4 a b c d := by
  unfold gI4
  apply gI_pos
  by_cases h1 : a = 0 ∧ b = 0
  · right
    apply gI_pos'
    omega
  · left
    apply gI_pos'
    omega
theorem gI4_dvd {a b c d : Int} : gI4 a b c d ∣ a ∧ gI4 a b c d ∣ b ∧ gI4 a b c d ∣ c ∧ gI4 a b c d ∣ d := by
  have l := gI_dvd_left (gI a b) (gI c d)
  have r := gI_dvd_right (gI a b) (gI c d)
  exact ⟨Int.dvd_trans l (gI_dvd_left a b), Int.dvd_trans l (gI_dvd_right a b), Int.dvd_trans r (gI_dvd_left c d), Int.dvd_trans r (gI_dvd_right c d)⟩
theorem gI4_ab (a b c d : Int) : gI (gI (ab a) (ab b)) (gI (ab c) (ab d)) = gI4 a b c d := by rw [gI_ab, gI_ab]; rfl
theorem gI_leB {a b B : Int} (ha : -B ≤ a ∧ a ≤ B) (hb : -B ≤ b ∧ b ≤ B) : 0 ≤ gI a b ∧ gI a b ≤ B := by
  refine ⟨gI_nonneg a b, ?_⟩
  by_cases h : b = 0
  · subst h
    by_cases h2 : a = 0
    · subst h2; have : gI 0 0 = 0 := by decide
      omega
    · rw [gI_comm]
      have := gI_le (a := 0) h2
      have e : ab a ≤ B := by unfold ab; omega
      omega
  · have := gI_le (a := a) h
    have e : ab b ≤ B := by unfold ab; omega
    omega
theorem gI4_leB {a b c d B : Int} (ha : -B ≤ a ∧ a ≤ B) (hb : -B ≤ b ∧ b ≤ B) (hc : -B ≤ c ∧ c ≤ B) (hd : -B ≤ d ∧ d ≤ B) : 0 ≤ gI4 a b c d ∧ gI4 a b c d ≤ B := by
  have h1 := gI_leB ha hb
  have h2 := gI_leB hc hd
  exact gI_leB (by omega) (by omega)
theorem join_nonzero {a b c d e f g h : Int} (v1 : vS a b c d = true) (v2 : vS e f g h = true) : ¬ (a * e + b * g = 0 ∧ a * f + b * h = 0 ∧ c * e + d * g = 0 ∧ c * f + d * h = 0) := by
  simp only [vS, Bool.and_eq_true, bne_iff_ne] at v1 v2
  rintro ⟨h1, h2, h3, h4⟩
  have e1 : (a * d - b * c) * (e * h - f * g) = (a * e + b * g) * (c * f + d * h) - (a * f + b * h) * (c * e + d * g) := by grind
  rw [h1, h2, Int.zero_mul, Int.zero_mul, Int.sub_zero] at e1
  rcases Int.mul_eq_zero.1 e1 with h5 | h5
  · exact v1.2 (by omega)
  · exact v2.2 (by omega)
theorem join_bounds {a b c d e f g h : Int} (v1 : vS a b c d = true) (v2 : vS e f g h = true) :
    (-1000000000000000000 ≤ a * e ∧ a * e ≤ 1000000000000000000) ∧ (-1000000000000000000 ≤ b * g ∧ b * g ≤ 1000000000000000000) ∧ (-1000000000000000000 ≤ a * f ∧ a * f ≤ 1000000000000000000) ∧ (-1000000000000000000 ≤ b * h ∧ b * h ≤ 1000000000000000000) ∧
    (-1000000000000000000 ≤ c * e ∧ c * e ≤ 1000000000000000000) ∧ (-1000000000000000000 ≤ d * g ∧ d * g ≤ 1000000000000000000) ∧ (-1000000000000000000 ≤ c * f ∧ c * f ≤ 1000000000000000000) ∧ (-1000000000000000000 ≤ d * h ∧ d * h ≤ 1000000000000000000) := by
  obtain ⟨h1, h2, h3, h4⟩ := wide_s v1
  obtain ⟨k1, k2, k3, k4⟩ := wide_s v2
  exact ⟨mul_s h1 k1, mul_s h2 k3, mul_s h1 k2, mul_s h2 k4, mul_s h3 k1, mul_s h4 k3, mul_s h3 k2, mul_s h4 k4⟩
/-- Four exact quotients by the common divisor. -/
theorem join_quot {a b c d : Int} (hp : 1 ≤ gI4 a b c d) (ha : -2000000000000000000 ≤ a ∧ a ≤ 2000000000000000000) :
    a.tdiv (gI4 a b c d) = a / gI4 a b c d ∧ b.tdiv (gI4 a b c d) = b / gI4 a b c d ∧ c.tdiv (gI4 a b c d) = c / gI4 a b c d ∧ d.tdiv (gI4 a b c d) = d / gI4 a b c d := by
  obtain ⟨d1, d2, d3, d4⟩ := gI4_dvd (a := a) (b := b) (c := c) (d := d)
  exact ⟨tdiv_dvd d1, tdiv_dvd d2, tdiv_dvd d3, tdiv_dvd d4⟩
end Go.Proofs.YtfnjboaocalidaaDoor
