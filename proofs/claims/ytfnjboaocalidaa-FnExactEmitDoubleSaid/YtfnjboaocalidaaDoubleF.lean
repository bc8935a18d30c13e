/- Terms that a bihomographic function knows: both packages. -/
import Derived.Test.YtfnjboaocalidaaDoubleB
import Derived.Test.YtfnjboaocalidaaFrac
import Derived.Test.YtfnjboaocalidaaMemB
namespace Go.Proofs.Ytfnjboaocalidaa
open Go.ChangeShapes Go.WideShapes Go.ChangeAt Go.RowKit
set_option linter.unusedVariables false
set_option maxHeartbeats 4000000
set_option maxRecDepth 20000
def sgn (n : Int) : Int := if n < 0 then -1 else if 0 < n then 1 else 0
theorem sign_any (n : Int) (w : World) : Calls Try.prog 86 #[.int .i64 n] w fun e w' => e = .returned (.int .i64 (sgn n)) ∧ w = w' := by
  rcases Int.lt_trichotomy n 0 with h | h | h
  · have e : sgn n = -1 := by simp [sgn, h]
    have HE := Lib.hid e
    clear e
    go_enter Try.func86, Try.ntmps86
    go_wp2
    go_ret
    exact ⟨ret_int HE.out.symm, rfl⟩
  · have e : sgn n = 0 := by subst h; rfl
    have HE := Lib.hid e
    have h1 : ¬ n < 0 := by omega
    have h2 : ¬ 0 < n := by omega
    clear e h
    go_enter Try.func86, Try.ntmps86
    go_wp2
    go_ret
    exact ⟨ret_int HE.out.symm, rfl⟩
  · have h1 : ¬ n < 0 := by omega
    have e : sgn n = 1 := by simp [sgn, h, h1]
    have HE := Lib.hid e
    clear e
    go_enter Try.func86, Try.ntmps86
    go_wp2
    go_ret
    exact ⟨ret_int HE.out.symm, rfl⟩
theorem sgn_eq {x y : Int} (hx : x ≠ 0) (hy : y ≠ 0) : sgn x = sgn y ↔ decide (0 < x) = decide (0 < y) := by
  unfold sgn
  rcases Int.lt_trichotomy x 0 with h | h | h
  · rcases Int.lt_trichotomy y 0 with k | k | k
    · simp [h, k]; omega
    · exact absurd k hy
    · rw [if_pos h, if_neg (by omega : ¬ y < 0), if_pos k]; simp [k]; omega
  · exact absurd h hx
  · rcases Int.lt_trichotomy y 0 with k | k | k
    · rw [if_neg (by omega : ¬ x < 0), if_pos h, if_pos k]; simp [h]; omega
    · exact absurd k hy
    · rw [if_neg (by omega : ¬ x < 0), if_pos h, if_neg (by omega : ¬ y < 0), if_pos k]; simp [h, k]
/-- Some denominator is 0 or of another sign than the first. -/
def kdB (B0 B1 B2 B3 : Int) : Bool := B0 == 0 || (B1 == 0 || decide (0 < B1) != decide (0 < B0)) || (B2 == 0 || decide (0 < B2) != decide (0 < B0)) || (B3 == 0 || decide (0 < B3) != decide (0 < B0))
def kdQ (T0 T1 T2 T3 B0 B1 B2 B3 : Int) : Int × Bool := if (fl T1 B1 != fl T0 B0 || fl T2 B2 != fl T0 B0 || fl T3 B3 != fl T0 B0) = true then (0, false) else (fl T0 B0, true)
def kdF (T0 T1 T2 T3 B0 B1 B2 B3 : Int) : Int × Bool := if kdB B0 B1 B2 B3 = true then (0, false) else kdQ T0 T1 T2 T3 B0 B1 B2 B3
/-- The term that a function knows. -/
def kd8 (a b c d e f i h : Int) : Int × Bool := kdF a (a + b) (a + c) (a + b + c + d) e (e + f) (e + i) (e + f + i + h)
theorem kdF_bad {T0 T1 T2 T3 B0 B1 B2 B3 : Int} (h : kdB B0 B1 B2 B3 = true) : kdF T0 T1 T2 T3 B0 B1 B2 B3 = (0, false) := by unfold kdF; rw [if_pos h]
theorem kdF_good {T0 T1 T2 T3 B0 B1 B2 B3 : Int} (h : kdB B0 B1 B2 B3 = false) : kdF T0 T1 T2 T3 B0 B1 B2 B3 = kdQ T0 T1 T2 T3 B0 B1 B2 B3 := by unfold kdF; rw [h]; rfl
theorem kd_bound {a b c d e f i h : Int} (ha : -1000000000 ≤ a ∧ a ≤ 1000000000) (hk : (kd8 a b c d e f i h).2 = true) : -1000000000 ≤ (kd8 a b c d e f i h).1 ∧ (kd8 a b c d e f i h).1 ≤ 1000000000 := by
  unfold kd8 kdF at *
  split at hk
  · simp at hk
  · rename_i hb
    rw [if_neg hb]
    unfold kdQ at *
    split at hk
    · simp at hk
    · rename_i hq
      rw [if_neg hq]
      have h0 : e ≠ 0 := fun h => hb (by simp [kdB, h])
      have := fl_bound (a := a) h0
      have hab : ab a ≤ 1000000000 := by unfold ab; omega
      simp only
      omega
theorem kd_facts {a b c d e f i h : Int} (hb : bD 1000000000 a b c d e f i h = true) : ∃ T1 T2 T3 B1 B2 B3 : Int, a + b = T1 ∧ a + c = T2 ∧ T1 + c + d = T3 ∧ e + f = B1 ∧ e + i = B2 ∧ B1 + i + h = B3 ∧
    kd8 a b c d e f i h = kdF a T1 T2 T3 e B1 B2 B3 ∧ (-1000000000 ≤ a ∧ a ≤ 1000000000) ∧ (-1000000000 ≤ b ∧ b ≤ 1000000000) ∧ (-1000000000 ≤ c ∧ c ≤ 1000000000) ∧ (-1000000000 ≤ d ∧ d ≤ 1000000000) ∧ (-1000000000 ≤ e ∧ e ≤ 1000000000) ∧ (-1000000000 ≤ f ∧ f ≤ 1000000000) ∧ (-1000000000 ≤ i ∧ i ≤ 1000000000) ∧ (-1000000000 ≤ h ∧ h ≤ 1000000000) ∧
    (-2000000000 ≤ T1 ∧ T1 ≤ 2000000000) ∧ (-2000000000 ≤ T2 ∧ T2 ≤ 2000000000) ∧ (-4000000000 ≤ T3 ∧ T3 ≤ 4000000000) ∧ (-2000000000 ≤ B1 ∧ B1 ≤ 2000000000) ∧ (-2000000000 ≤ B2 ∧ B2 ≤ 2000000000) ∧ (-4000000000 ≤ B3 ∧ B3 ≤ 4000000000) := by
  obtain ⟨b1, b2, b3, b4, b5, b6, b7, b8⟩ := bD_iff.1 hb
  exact ⟨_, _, _, _, _, _, rfl, rfl, rfl, rfl, rfl, rfl, rfl, b1, b2, b3, b4, b5, b6, b7, b8, by omega, by omega, by omega, by omega, by omega, by omega⟩
end Go.Proofs.Ytfnjboaocalidaa
