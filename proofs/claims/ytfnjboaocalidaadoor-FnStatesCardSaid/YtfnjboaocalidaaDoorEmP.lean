/- A term that is emitted is the floor, and what is left is the inverse of the rest: the plain law, for states of small numbers. -/
import Derived.Test.YtfnjboaocalidaaDoorRat
namespace Go.Proofs.YtfnjboaocalidaaDoor
open Go.ChangeShapes Go.WideShapes Go.ChangeAt Go.RowKit
set_option linter.unusedVariables false
set_option maxHeartbeats 1000000
theorem vQ_one {n : Int} (h : -1000000000 ≤ n ∧ n ≤ 1000000000) : vQ n 1 = true := by
  refine vQ_iff.2 ⟨h, by omega, ?_⟩
  unfold gI Int.gcd
  simp
theorem knF_facts {a b c d : Int} (h : (knF a b c d).2 = true) : c ≠ 0 ∧ c + d ≠ 0 ∧ (c < 0 ↔ c + d < 0) ∧ (knF a b c d).1 = fl a c ∧ fl (a + b) (c + d) = fl a c := by
  unfold knF at h ⊢
  split at h
  · simp at h
  · rename_i hn
    rw [if_neg hn]
    simp only [beq_iff_eq] at h
    simp only [not_or, bne_iff_ne, ne_eq, Classical.not_not] at hn
    obtain ⟨h1, h2, h3⟩ := hn
    have h4 := of_decide_eq_true (p := (c < 0 ↔ c + d < 0)) (by rw [decide_eq_true_eq]; exact decide_eq_decide.1 h3)
    exact ⟨h1, h2, h4, rfl, h⟩
theorem vS_det {a b c d : Int} (h : vS a b c d = true) : a * d ≠ b * c := by
  simp only [vS, Bool.and_eq_true, bne_iff_ne] at h
  exact h.2
theorem q_small {a c : Int} (h1 : -9 ≤ a ∧ a ≤ 9) (h0 : c ≠ 0) : -9 ≤ fl a c ∧ fl a c ≤ 9 := by
  have := fl_bound (a := a) h0
  have hab : ab a ≤ 9 := by unfold ab; omega
  omega
theorem emit_small {a b c d : Int} (hv : vS a b c d = true) (h1 : -9 ≤ a ∧ a ≤ 9) (h2 : -9 ≤ b ∧ b ≤ 9) (h3 : -9 ≤ c ∧ c ≤ 9) (h4 : -9 ≤ d ∧ d ≤ 9) :
    emitF a b c d = (0, zS, 10) ∨ ∃ q, emitF a b c d = (q, ⟨c, d, a - q * c, b - q * d⟩, 0) ∧ vS c d (a - q * c) (b - q * d) = true ∧ (-9 ≤ q ∧ q ≤ 9) ∧ q = fl a c ∧ c ≠ 0 ∧ c + d ≠ 0 ∧ (c < 0 ↔ c + d < 0) ∧ fl (a + b) (c + d) = q := by
  cases hk : (knF a b c d).2
  · left
    unfold emitF
    rw [if_pos hv, if_neg (by rw [hk]; decide)]
  · right
    obtain ⟨k1, k2, k3, k4, k5⟩ := knF_facts hk
    have hq := q_small h1 k1
    have m1 := mul_abs (a := fl a c) (b := c) (A := 9) (B := 9) (by omega) (by omega)
    have m2 := mul_abs (a := fl a c) (b := d) (A := 9) (B := 9) (by omega) (by omega)
    have hb : bS c d (a - fl a c * c) (b - fl a c * d) = true := bS_iff.2 ⟨by omega, by omega, by omega, by omega⟩
    refine ⟨fl a c, ?_, ?_, hq, rfl, k1, k2, k3, k5⟩
    · unfold emitF
      rw [if_pos hv, if_pos hk, k4, if_pos hb]
    · rw [emit_vS hv]; exact hb
/-- Between two quotients with one floor. -/
theorem fl_between {a b c d n : Int} (hn : 1 ≤ n) (hc : c ≠ 0) (he : c + d ≠ 0) (hs : c < 0 ↔ c + d < 0) (h : fl (a + b) (c + d) = fl a c) : c * n + d ≠ 0 ∧ fl (a * n + b) (c * n + d) = fl a c := by
  have e1 : a * n + b = a * (n - 1) + (a + b) := by grind
  have e2 : c * n + d = c * (n - 1) + (c + d) := by grind
  have f1 := (fl_iff (a := a) (b := c) (q := fl a c) hc).1 rfl
  have f2 := (fl_iff (a := a + b) (b := c + d) (q := fl a c) he).1 h
  generalize fl a c = q at *
  generalize hk : n - 1 = k at *
  have hk0 : 0 ≤ k := by omega
  rw [e1, e2]
  rcases Int.lt_or_le c 0 with hneg | hpos
  · have hce := hs.1 hneg
    obtain ⟨g1, g2⟩ := f1.2 hneg
    obtain ⟨g3, g4⟩ := f2.2 hce
    have hck : c * k ≤ 0 := Int.mul_nonpos_of_nonpos_of_nonneg (by omega) hk0
    have hne : c * k + (c + d) < 0 := by omega
    refine ⟨by omega, (fl_iff (by omega)).2 ⟨fun h => by omega, fun _ => ?_⟩⟩
    have m1 := Int.mul_le_mul_of_nonneg_right g1 hk0
    have m2 := Int.mul_le_mul_of_nonneg_right (Int.le_of_lt g2) hk0
    have e3 : (c * k + (c + d)) * q = (c * q) * k + (c + d) * q := by grind
    have e4 : (c * q + c) * k = (c * q) * k + c * k := by grind
    rw [e4] at m2
    rw [e3]
    generalize c * q * k = z1 at *
    generalize (c + d) * q = z2 at *
    generalize a * k = z3 at *
    generalize c * k = z4 at *
    constructor <;> omega
  · have hcp : 0 < c := by omega
    have hce : 0 < c + d := by omega
    obtain ⟨g1, g2⟩ := f1.1 hcp
    obtain ⟨g3, g4⟩ := f2.1 hce
    have hck : 0 ≤ c * k := Int.mul_nonneg (by omega) hk0
    refine ⟨by omega, (fl_iff (by omega)).2 ⟨fun _ => ?_, fun h => by omega⟩⟩
    have m1 := Int.mul_le_mul_of_nonneg_right g1 hk0
    have m2 := Int.mul_le_mul_of_nonneg_right (Int.le_of_lt g2) hk0
    have e3 : (c * k + (c + d)) * q = (c * q) * k + (c + d) * q := by grind
    have e4 : (c * q + c) * k = (c * q) * k + c * k := by grind
    rw [e4] at m2
    rw [e3]
    generalize c * q * k = z1 at *
    generalize (c + d) * q = z2 at *
    generalize a * k = z3 at *
    generalize c * k = z4 at *
    constructor <;> omega
/-- What the law looks at, behind a term that is emitted. -/
structure EmLaw (a b c d n q yN yD rN rD : Int) : Prop where
  at_ : atF a b c d n 1 = (⟨yN, yD⟩, 0)
  yv : vQ yN yD = true
  yf : fl yN yD = q
  ys : (-3000 ≤ yN ∧ yN ≤ 3000) ∧ yD ≤ 3000
  rest : plainQ (yN * 1 - q * yD) (yD * 1) = (⟨rN, rD⟩, 0)
  rv : vQ rN rD = true
  zero : rN = 0 → (atF c d (a - q * c) (b - q * d) n 1).2 = 6
  same : rN ≠ 0 → plainQ (1 * rD) (1 * rN) = atF c d (a - q * c) (b - q * d) n 1 ∧ (atF c d (a - q * c) (b - q * d) n 1).2 = 0
theorem em_law {a b c d n q : Int} (hv : vS a b c d = true) (h1 : -9 ≤ a ∧ a ≤ 9) (h2 : -9 ≤ b ∧ b ≤ 9) (h3 : -9 ≤ c ∧ c ≤ 9) (h4 : -9 ≤ d ∧ d ≤ 9) (hn : 1 ≤ n ∧ n ≤ 250)
    (hv2 : vS c d (a - q * c) (b - q * d) = true) (hq : -9 ≤ q ∧ q ≤ 9) (hf : q = fl a c) (hc : c ≠ 0) (he : c + d ≠ 0) (hs : c < 0 ↔ c + d < 0) (hfe : fl (a + b) (c + d) = q) : ∃ yN yD rN rD, EmLaw a b c d n q yN yD rN rD := by
  obtain ⟨hB, hfl⟩ := fl_between (n := n) hn.1 hc he hs (by rw [hfe]; exact hf)
  rw [← hf] at hfl
  have m1 := mul_abs (a := a) (b := n) (A := 9) (B := 250) (by omega) (by omega)
  have m2 := mul_abs (a := c) (b := n) (A := 9) (B := 250) (by omega) (by omega)
  have vn := vQ_one (n := n) (by omega)
  have e1 : a * n + b * 1 = a * n + b := by omega
  have e2 : c * n + d * 1 = c * n + d := by omega
  have hat : atF a b c d n 1 = plainQ (a * n + b) (c * n + d) := by
    unfold atF
    rw [if_pos ⟨hv, vn⟩, e1, e2, if_neg (by simp [hB])]
  have hat2 : atF c d (a - q * c) (b - q * d) n 1 = if ((a * n + b) - q * (c * n + d) == 0) = true then (zQ, 6) else plainQ (c * n + d) ((a * n + b) - q * (c * n + d)) := by
    have e3 : (a - q * c) * n + (b - q * d) * 1 = (a * n + b) - q * (c * n + d) := by grind
    unfold atF
    rw [if_pos ⟨hv2, vn⟩, e2, e3]
  have mA : -2259 ≤ a * n + b ∧ a * n + b ≤ 2259 := by omega
  have mB : -2259 ≤ c * n + d ∧ c * n + d ≤ 2259 := by omega
  generalize a * n + b = A at *
  generalize c * n + d = B at *
  have mq := mul_abs (a := q) (b := B) (A := 9) (B := 2259) (by omega) (by omega)
  obtain ⟨yv, yq⟩ := plainQ_ok (a := A) (b := B) hB (by omega) (by omega)
  have yl := low_of (a := A) hB
  have yle := low_le (a := A) hB
  have yfl := fl_low hB yl
  generalize lowN A B = yN at *
  generalize lowD A B = yD at *
  have yp := yl.pos
  have yb : (-2259 ≤ yN ∧ yN ≤ 2259) ∧ yD ≤ 2259 := by
    obtain ⟨l1, l2⟩ := yle
    unfold ab at l1 l2
    omega
  have mq2 := mul_abs (a := q) (b := yD) (A := 9) (B := 2259) (by omega) (by omega)
  obtain ⟨rv, rq⟩ := plainQ_ok (a := yN * 1 - q * yD) (b := yD * 1) (by omega) (by omega) (by omega)
  have rl := low_of (a := yN * 1 - q * yD) (b := yD * 1) (by omega)
  have rle := low_le (a := yN * 1 - q * yD) (b := yD * 1) (by omega)
  generalize lowN (yN * 1 - q * yD) (yD * 1) = rN at *
  generalize lowD (yN * 1 - q * yD) (yD * 1) = rD at *
  have rp := rl.pos
  have key : (yN - q * yD) * B = yD * (A - q * B) := by
    have := yl.crs
    have e : (yN - q * yD) * B = yN * B - yD * (q * B) := by grind
    rw [e, this]; grind
  have rcr : rN * yD = (yN - q * yD) * rD := by
    have := rl.crs
    rw [Int.mul_one, Int.mul_one] at this
    exact this
  refine ⟨yN, yD, rN, rD, ⟨by rw [hat]; exact yq, yv, by rw [yfl]; exact hfl, by omega, rq, rv, ?_, ?_⟩⟩
  · intro h0
    have h5 : A - q * B = 0 := by
      rw [h0, Int.zero_mul] at rcr
      have h6 : yN - q * yD = 0 := by
        rcases Int.mul_eq_zero.1 rcr.symm with h | h
        · exact h
        · omega
      rw [h6, Int.zero_mul] at key
      rcases Int.mul_eq_zero.1 key.symm with h | h
      · omega
      · exact h
    rw [hat2, if_pos (by simp [h5])]
  · intro h0
    have h5 : A - q * B ≠ 0 := by
      intro h
      rw [h, Int.mul_zero] at key
      have h6 : yN - q * yD = 0 := by
        rcases Int.mul_eq_zero.1 key with h | h
        · exact h
        · exact absurd h hB
      rw [h6, Int.zero_mul] at rcr
      rcases Int.mul_eq_zero.1 rcr with h | h
      · exact h0 h
      · omega
    rw [hat2, if_neg (by simp [h5])]
    have hx : (1 * rD) * (A - q * B) = B * (1 * rN) := by
      apply Int.eq_of_mul_eq_mul_left (by omega : yD ≠ 0)
      have e1 : yD * (1 * rD * (A - q * B)) = (yD * (A - q * B)) * rD := by grind
      have e2 : yD * (B * (1 * rN)) = (rN * yD) * B := by grind
      rw [e1, e2, ← key, rcr]; grind
    refine ⟨plainQ_x (by omega) h5 hx, ?_⟩
    rw [(plainQ_ok h5 (by omega) (by omega)).2]
end Go.Proofs.YtfnjboaocalidaaDoor
