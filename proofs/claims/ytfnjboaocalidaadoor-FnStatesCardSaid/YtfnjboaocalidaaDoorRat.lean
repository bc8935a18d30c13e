/- Fractions in lowest terms: two that are equal across are the same; states of small numbers: the plain law. -/
import Derived.Test.YtfnjboaocalidaaDoorStateG
import Derived.Test.YtfnjboaocalidaaDoorStateE
namespace Go.Proofs.YtfnjboaocalidaaDoor
open Go.ChangeShapes Go.WideShapes Go.ChangeAt Go.RowKit
set_option linter.unusedVariables false
set_option maxHeartbeats 1000000
/-- What lowest terms are. -/
structure LowOf (a b n m : Int) : Prop where
  pos : 0 < m
  cop : gI n m = 1
  crs : n * b = a * m
theorem low_of {a b : Int} (hb : b ≠ 0) : LowOf a b (lowN a b) (lowD a b) := by
  obtain ⟨p, hp⟩ := gI_dvd_left a b
  obtain ⟨q, hq⟩ := gI_dvd_right a b
  have hg := gI_pos (a := a) (b := b) (.inr hb)
  have hq0 : q ≠ 0 := by intro h; rw [h, Int.mul_zero] at hq; exact hb hq
  have hc : gI p q = 1 := by
    have h1 : Int.gcd a b = Int.gcd a b * Int.gcd p q := by
      have h2 := Int.gcd_mul_left (gI a b) p q
      rw [← hp, ← hq] at h2
      have h3 : (gI a b).natAbs = Int.gcd a b := by unfold gI; simp
      rw [h3] at h2
      exact h2
    have h4 : 0 < Int.gcd a b := by unfold gI at hg; omega
    have h5 : Int.gcd p q = 1 := by
      have : Int.gcd a b * 1 = Int.gcd a b * Int.gcd p q := by rw [Nat.mul_one]; exact h1
      exact (Nat.eq_of_mul_eq_mul_left h4 this).symm
    unfold gI
    rw [h5]; rfl
  generalize hG : gI a b = g at *
  have ea : a / g = p := by rw [hp, Int.mul_ediv_cancel_left _ (by omega)]
  have eb : b / g = q := by rw [hq, Int.mul_ediv_cancel_left _ (by omega)]
  have ena : (-a) / g = -p := by rw [hp, ← Int.mul_neg, Int.mul_ediv_cancel_left _ (by omega)]
  have enb : (-b) / g = -q := by rw [hq, ← Int.mul_neg, Int.mul_ediv_cancel_left _ (by omega)]
  unfold lowN lowD
  rw [hG, ea, eb, ena, enb]
  split
  · rename_i hneg
    refine ⟨?_, by rw [gI_neg, gI_neg']; exact hc, ?_⟩
    · have : q < 0 := by
        rcases Int.lt_or_le q 0 with h | h
        · exact h
        · have := Int.mul_nonneg (by omega : 0 ≤ g) h; omega
      omega
    · rw [hp, hq]; grind
  · rename_i hpos
    refine ⟨?_, hc, ?_⟩
    · rcases Int.lt_or_le 0 q with h | h
      · exact h
      · have h6 : q < 0 := by omega
        have := Int.mul_neg_of_pos_of_neg (by omega : 0 < g) h6
        omega
    · rw [hp, hq]; grind
theorem dvd_cop {n m k : Int} (h : gI n m = 1) (hd : m ∣ n * k) : m ∣ k := by
  have h1 : Nat.Coprime m.natAbs n.natAbs := by
    have h2 : Int.gcd n m = 1 := by unfold gI at h; omega
    rw [Nat.coprime_comm]
    exact h2
  have h3 := Int.natAbs_dvd_natAbs.2 hd
  rw [Int.natAbs_mul] at h3
  exact Int.natAbs_dvd_natAbs.1 (h1.dvd_of_dvd_mul_left h3)
theorem low_same {a b a' b' n m n' m' : Int} (hb : b ≠ 0) (hb' : b' ≠ 0) (h : LowOf a b n m) (h' : LowOf a' b' n' m') (hx : a * b' = a' * b) : n = n' ∧ m = m' := by
  have e : n * m' = n' * m := by
    have h1 : (n * m') * (b * b') = (n' * m) * (b * b') := by
      have e1 : (n * m') * (b * b') = (n * b) * (m' * b') := by grind
      have e2 : (n' * m) * (b * b') = (n' * b') * (m * b) := by grind
      rw [e1, e2, h.crs, h'.crs]
      have e3 : a * m * (m' * b') = (a * b') * (m * m') := by grind
      have e4 : a' * m' * (m * b) = (a' * b) * (m * m') := by grind
      rw [e3, e4, hx]
    exact Int.eq_of_mul_eq_mul_right (Int.mul_ne_zero hb hb') h1
  have d1 : m ∣ m' := dvd_cop h.cop ⟨n', by rw [e, Int.mul_comm]⟩
  have d2 : m' ∣ m := dvd_cop h'.cop ⟨n, by rw [← e, Int.mul_comm]⟩
  have p1 := h.pos
  have p2 := h'.pos
  have em : m = m' := by
    have l1 := Int.le_of_dvd p2 d1
    have l2 := Int.le_of_dvd p1 d2
    omega
  subst em
  exact ⟨Int.eq_of_mul_eq_mul_right (by omega) e, rfl⟩
theorem low_eq {a b a' b' : Int} (hb : b ≠ 0) (hb' : b' ≠ 0) (hx : a * b' = a' * b) : lowN a b = lowN a' b' ∧ lowD a b = lowD a' b' := low_same hb hb' (low_of hb) (low_of hb') hx
theorem plainQ_x {a b a' b' : Int} (hb : b ≠ 0) (hb' : b' ≠ 0) (hx : a * b' = a' * b) : plainQ a b = plainQ a' b' := by
  obtain ⟨h1, h2⟩ := low_eq hb hb' hx
  unfold plainQ
  rw [h1, h2]
theorem vQ_low {n m : Int} (h : vQ n m = true) : LowOf n m n m := by
  obtain ⟨-, h2, h3⟩ := vQ_iff.1 h
  exact ⟨by omega, h3, rfl⟩
/-- A fraction that equals a plain one is that one. -/
theorem plainQ_is {a b n m : Int} (hv : vQ n m = true) (hb : b ≠ 0) (hx : a * m = n * b) : plainQ a b = (⟨n, m⟩, 0) := by
  have hm := (vQ_iff.1 hv).2.1
  obtain ⟨h1, h2⟩ := low_same hb (by omega : m ≠ 0) (low_of hb) (vQ_low hv) hx
  unfold plainQ
  rw [h1, h2, if_pos hv]
/-- Lowest terms are no greater. -/
theorem low_le {a b : Int} (hb : b ≠ 0) : ab (lowN a b) ≤ ab a ∧ lowD a b ≤ ab b := by
  have hg := gI_pos (a := a) (b := b) (.inr hb)
  obtain ⟨p, hp⟩ := gI_dvd_left a b
  obtain ⟨q, hq⟩ := gI_dvd_right a b
  generalize hG : gI a b = g at *
  have ea : a / g = p := by rw [hp, Int.mul_ediv_cancel_left _ (by omega)]
  have eb : b / g = q := by rw [hq, Int.mul_ediv_cancel_left _ (by omega)]
  have ena : (-a) / g = -p := by rw [hp, ← Int.mul_neg, Int.mul_ediv_cancel_left _ (by omega)]
  have enb : (-b) / g = -q := by rw [hq, ← Int.mul_neg, Int.mul_ediv_cancel_left _ (by omega)]
  have key : ∀ x : Int, x.natAbs ≤ (g * x).natAbs := by
    intro x
    rw [Int.natAbs_mul]
    exact Nat.le_mul_of_pos_left _ (by omega)
  have k1 := key p
  have k2 := key q
  rw [← hp] at k1
  rw [← hq] at k2
  unfold lowN lowD ab
  rw [hG, ea, eb, ena, enb]
  split <;> omega
/-- Of small numbers the lowest terms are plain. -/
theorem plainQ_ok {a b : Int} (hb : b ≠ 0) (ha1 : -1000000000 ≤ a ∧ a ≤ 1000000000) (hb1 : -1000000000 ≤ b ∧ b ≤ 1000000000) : vQ (lowN a b) (lowD a b) = true ∧ plainQ a b = (⟨lowN a b, lowD a b⟩, 0) := by
  have h := low_of (a := a) hb
  have h2 := low_le (a := a) hb
  have hp := h.pos
  have hv : vQ (lowN a b) (lowD a b) = true := by
    refine vQ_iff.2 ⟨?_, ?_, h.cop⟩
    · have := h2.1; unfold ab at this; omega
    · have := h2.2; unfold ab at this; omega
  refine ⟨hv, ?_⟩
  unfold plainQ
  rw [if_pos hv]
/-- A quotient rounded down is that of the lowest terms. -/
theorem fl_iff {a b q : Int} (hb : b ≠ 0) : fl a b = q ↔ (0 < b → b * q ≤ a ∧ a < b * q + b) ∧ (b < 0 → a ≤ b * q ∧ b * q + b < a) := by
  unfold fl
  constructor
  · intro h
    split at h
    · rename_i hp
      have e := Int.mul_ediv_add_emod a b
      have m0 := Int.emod_nonneg a hb
      have m1 := Int.emod_lt_of_pos a hp
      rw [h] at e
      exact ⟨fun _ => by omega, fun _ => by omega⟩
    · rename_i hp
      have hbn : 0 < -b := by omega
      have e := Int.mul_ediv_add_emod (-a) (-b)
      have m0 := Int.emod_nonneg (-a) (by omega : -b ≠ 0)
      have m1 := Int.emod_lt_of_pos (-a) hbn
      rw [h, Int.neg_mul] at e
      exact ⟨fun _ => by omega, fun _ => by omega⟩
  · intro ⟨h1, h2⟩
    split
    · rename_i hp
      exact div_unique hp (h1 hp).1 (h1 hp).2
    · rename_i hp
      have hbn : b < 0 := by omega
      have := h2 hbn
      refine div_unique (by omega) ?_ ?_
      · rw [Int.neg_mul]; omega
      · rw [Int.neg_mul]; omega
theorem fl_low {a b n m : Int} (hb : b ≠ 0) (h : LowOf a b n m) : fl n m = fl a b := by
  have hm := h.pos
  have hx := h.crs
  symm
  rw [fl_iff hb]
  have hq := (fl_iff (a := n) (b := m) (q := fl n m) (by omega)).1 rfl
  obtain ⟨q1, q2⟩ := hq.1 hm
  generalize fl n m = q at *
  constructor
  · intro hp
    have k1 := Int.mul_le_mul_of_nonneg_right q1 (by omega : 0 ≤ b)
    have k2 := Int.mul_lt_mul_of_pos_right q2 hp
    have e1 : m * q * b = (b * q) * m := by grind
    have e2 : (m * q + m) * b = (b * q + b) * m := by grind
    rw [e1, hx] at k1
    rw [hx, e2] at k2
    exact ⟨Int.le_of_mul_le_mul_right k1 hm, Int.lt_of_mul_lt_mul_right k2 (by omega)⟩
  · intro hp
    have k1 := Int.mul_le_mul_of_nonneg_right q1 (by omega : 0 ≤ -b)
    have k2 := Int.mul_lt_mul_of_pos_right q2 (by omega : 0 < -b)
    have e1 : m * q * -b = -((b * q) * m) := by grind
    have e2 : (m * q + m) * -b = -((b * q + b) * m) := by grind
    have e3 : n * -b = -(a * m) := by rw [← hx]; grind
    rw [e1, e3] at k1
    rw [e3, e2] at k2
    have k3 : a * m ≤ (b * q) * m := by omega
    have k4 : (b * q + b) * m < a * m := by omega
    exact ⟨Int.le_of_mul_le_mul_right k3 hm, Int.lt_of_mul_lt_mul_right k4 (by omega)⟩
end Go.Proofs.YtfnjboaocalidaaDoor
