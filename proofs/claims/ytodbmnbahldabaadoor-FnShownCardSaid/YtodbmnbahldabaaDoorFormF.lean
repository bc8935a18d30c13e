/- Quadratic forms: the next form of a form. -/
import Derived.Test.YtodbmnbahldabaaDoorFormE
import Derived.Test.YtodbmnbahldabaaDoorQuo
namespace Go.Proofs.YtodbmnbahldabaaDoor
open Go.ChangeShapes Go.WideShapes Go.ChangeAt Go.RowKit
set_option linter.unusedVariables false
set_option maxHeartbeats 1000000
structure Fm where
  a : Int
  b : Int
  c : Int
def hiF (c d : Int) : Int := if 0 < d ∧ ab c ≤ rt d then rt d else ab c
def stB (b c d : Int) : Int := hiF c d - (hiF c d + b) % (2 * ab c)
def stN (b c d : Int) : Int := (stB b c d + b) / (2 * c)
def stC (a b c d : Int) : Int := a - b * stN b c d + c * stN b c d * stN b c d
/-- The next form. -/
def stepF (a b c : Int) : Fm := ⟨c, stB b c (dF a b c), stC a b c (dF a b c)⟩
theorem sqB_sq {b : Int} (h : -10000 ≤ b ∧ b ≤ 10000) : sqB (b * b) = true := by
  have h0 : 0 ≤ b * b := by
    rcases Int.lt_or_le b 0 with h | h
    · exact Int.mul_nonneg_of_nonpos_of_nonpos (by omega) (by omega)
    · exact Int.mul_nonneg h h
  have h1 : b * b ≤ 100000000 := (mul_f h h).2
  have e : ab b * ab b = b * b := by
    unfold ab
    rcases Int.natAbs_eq b with q | q
    · rw [← q]
    · have : (b.natAbs : Int) = -b := by omega
      rw [this, Int.neg_mul_neg]
  have hr : rt (b * b) = ab b := by
    refine rt_unique h0 (by omega) (ab_nonneg b) (by omega) ?_
    rw [Int.add_mul, Int.mul_add]
    have := ab_nonneg b
    omega
  unfold sqB
  rw [hr, e]
  simp [h0]
theorem vF_c {a b c : Int} (h : vF a b c = true) : c ≠ 0 := by
  intro e
  subst e
  obtain ⟨-, hb, -⟩ := vF_in h
  have : dF a b 0 = b * b := by unfold dF; omega
  simp only [vF, Bool.and_eq_true, this, sqB_sq hb] at h
  simp at h
theorem vF_d {a b c : Int} (h : vF a b c = true) : dF a b c ≠ 0 ∧ (0 < dF a b c ∨ 0 < a) := by
  simp only [vF, Bool.and_eq_true] at h
  obtain ⟨⟨_, h1⟩, h2⟩ := h
  refine ⟨?_, by simpa using h2⟩
  intro e
  rw [e, sqB_zero] at h1
  simp at h1
theorem ab_sign (c : Int) : ab c = c ∨ ab c = -c := by unfold ab; omega
/-- What the next form's middle number is. -/
theorem stB_facts {b c d : Int} (hc : c ≠ 0) (hd : d ≤ 500000000) (hcb : -10000 ≤ c ∧ c ≤ 10000) :
    (1 ≤ ab c ∧ ab c ≤ 10000) ∧ (ab c ≤ hiF c d ∧ hiF c d ≤ 30000) ∧ (hiF c d - 2 * ab c < stB b c d ∧ stB b c d ≤ hiF c d) ∧ stB b c d + b = 2 * c * stN b c d := by
  have h1 : 1 ≤ ab c ∧ ab c ≤ 10000 := by unfold ab; omega
  have h2 : ab c ≤ hiF c d ∧ hiF c d ≤ 30000 := by
    unfold hiF
    split
    · rename_i h
      have := rt_le (n := d) (B := 30000) (by omega) (by omega) (by omega) (by omega)
      omega
    · omega
  refine ⟨h1, h2, ?_, ?_⟩
  · have m0 := Int.emod_nonneg (hiF c d + b) (by omega : 2 * ab c ≠ 0)
    have m1 := Int.emod_lt_of_pos (hiF c d + b) (by omega : 0 < 2 * ab c)
    unfold stB
    omega
  · have e := Int.mul_ediv_add_emod (hiF c d + b) (2 * ab c)
    have e1 : stB b c d + b = 2 * ab c * ((hiF c d + b) / (2 * ab c)) := by unfold stB; omega
    have hdvd : 2 * c ∣ stB b c d + b := by
      rw [e1]
      rcases ab_sign c with h | h
      · rw [h]; exact Int.dvd_mul_right _ _
      · rw [h]
        exact ⟨-((hiF c d + b) / (2 * -c)), by rw [Int.mul_neg 2 c, Int.neg_mul, Int.mul_neg]⟩
    unfold stN
    exact (Int.mul_ediv_cancel' hdvd).symm
theorem stC_eq {a b c d n B C : Int} (hd : d = b * b - 4 * a * c) (hB : B + b = 2 * c * n) (hC : C = a - b * n + c * n * n) : B * B - d = 4 * c * C := by
  have e : B = 2 * c * n - b := by omega
  subst hd hC e
  have e1 : (2 * c * n - b) * (2 * c * n - b) = 4 * c * (c * n * n) - 4 * c * (b * n) + b * b := by
    simp only [Int.sub_mul, Int.mul_sub]
    have x1 : 2 * c * n * (2 * c * n) = 4 * c * (c * n * n) := by
      have : 2 * c * n * (2 * c * n) = 2 * (2 * (c * n * (c * n))) := by
        rw [show 2 * c * n = 2 * (c * n) from Int.mul_assoc 2 c n]
        rw [Int.mul_assoc 2 (c * n), Int.mul_left_comm (c * n) 2]
      rw [this, show c * n * (c * n) = c * (c * n * n) from by rw [Int.mul_assoc c n (c * n), Int.mul_comm n (c * n)]]
      rw [show 4 * c * (c * n * n) = 4 * (c * (c * n * n)) from Int.mul_assoc ..]
      omega
    have x2 : 2 * c * n * b = 2 * (c * (b * n)) := by
      rw [Int.mul_assoc 2 c n, Int.mul_assoc 2 (c * n) b, Int.mul_assoc c n b, Int.mul_comm n b]
    have x3 : b * (2 * c * n) = 2 * (c * (b * n)) := by rw [Int.mul_comm]; exact x2
    have x4 : 4 * c * (b * n) = 4 * (c * (b * n)) := Int.mul_assoc ..
    omega
  rw [e1]
  have y1 : 4 * c * (a - b * n + c * n * n) = 4 * c * a - 4 * c * (b * n) + 4 * c * (c * n * n) := by
    rw [Int.mul_add, Int.mul_sub]
  have y2 : 4 * a * c = 4 * c * a := by rw [Int.mul_assoc, Int.mul_assoc, Int.mul_comm a c]
  omega
/-- The next form keeps the discriminant, and how great its numbers are. -/
theorem step_facts {a b c : Int} (ha : -10000 ≤ a ∧ a ≤ 10000) (hb : -10000 ≤ b ∧ b ≤ 10000) (hcb : -10000 ≤ c ∧ c ≤ 10000) (hc : c ≠ 0) :
    (-10000 ≤ stB b c (dF a b c) ∧ stB b c (dF a b c) ≤ 30000) ∧ stB b c (dF a b c) * stB b c (dF a b c) - dF a b c = 4 * c * stC a b c (dF a b c) ∧
    (-20000 ≤ stN b c (dF a b c) ∧ stN b c (dF a b c) ≤ 20000) ∧ (-200000000 ≤ b * stN b c (dF a b c) ∧ b * stN b c (dF a b c) ≤ 200000000) ∧
    (-20000 ≤ c * stN b c (dF a b c) ∧ c * stN b c (dF a b c) ≤ 20000) ∧ (-400000000 ≤ c * stN b c (dF a b c) * stN b c (dF a b c) ∧ c * stN b c (dF a b c) * stN b c (dF a b c) ≤ 400000000) := by
  have hd := dF_range ha hb hcb
  obtain ⟨h1, h2, h3, h4⟩ := stB_facts (b := b) (d := dF a b c) hc (by omega) hcb
  have h5 := stC_eq (a := a) (d := dF a b c) (C := stC a b c (dF a b c)) rfl h4 rfl
  have e : c * stN b c (dF a b c) = (stB b c (dF a b c) + b) / 2 ∧ 2 * (c * stN b c (dF a b c)) = stB b c (dF a b c) + b := by
    have : 2 * (c * stN b c (dF a b c)) = stB b c (dF a b c) + b := by rw [h4, Int.mul_assoc]
    omega
  have b1 : -20000 ≤ c * stN b c (dF a b c) ∧ c * stN b c (dF a b c) ≤ 20000 := by omega
  have b2 : -20000 ≤ stN b c (dF a b c) ∧ stN b c (dF a b c) ≤ 20000 := by
    generalize stN b c (dF a b c) = n at *
    have : n.natAbs ≤ (c * n).natAbs := by
      rw [Int.natAbs_mul]
      exact Nat.le_mul_of_pos_left _ (by omega)
    omega
  have b3 := mul_f hb b2
  have b4 := mul_f b1 b2
  exact ⟨by omega, h5, b2, by omega, b1, by omega⟩
end Go.Proofs.YtodbmnbahldabaaDoor
