/- Feeding a term is replacing x, the inverse leads back, joined states are functions of functions: the plain law, for small numbers. -/
import Derived.Test.YtfnjboaocalidaaDoorEmP
namespace Go.Proofs.YtfnjboaocalidaaDoor
open Go.ChangeShapes Go.WideShapes Go.ChangeAt Go.RowKit
set_option linter.unusedVariables false
set_option maxHeartbeats 1000000
theorem vS_mk {a b c d : Int} (h1 : -1000000000 ≤ a ∧ a ≤ 1000000000) (h2 : -1000000000 ≤ b ∧ b ≤ 1000000000) (h3 : -1000000000 ≤ c ∧ c ≤ 1000000000) (h4 : -1000000000 ≤ d ∧ d ≤ 1000000000) (h : a * d ≠ b * c) : vS a b c d = true := by
  simp only [vS, Bool.and_eq_true, bne_iff_ne]
  exact ⟨bS_iff.2 ⟨h1, h2, h3, h4⟩, h⟩
theorem atF_ok {a b c d n m : Int} (h1 : vS a b c d = true) (h2 : vQ n m = true) : atF a b c d n m = if (c * n + d * m == 0) = true then (zQ, 6) else plainQ (a * n + b * m) (c * n + d * m) := by
  unfold atF
  rw [if_pos ⟨h1, h2⟩]
/-- Values of two functions that agree across. -/
theorem at_same {A B A' B' : Int} (h0 : B = 0 ↔ B' = 0) (hx : A * B' = A' * B) : (if (B == 0) = true then ((zQ, 6) : Fr × Int) else plainQ A B) = if (B' == 0) = true then (zQ, 6) else plainQ A' B' := by
  by_cases h : B = 0
  · have h' := h0.1 h
    rw [if_pos (by simp [h]), if_pos (by simp [h'])]
  · have h' : B' ≠ 0 := fun e => h (h0.2 e)
    rw [if_neg (by simp [h]), if_neg (by simp [h'])]
    exact plainQ_x h h' hx
/-- What the law looks at: feeding. -/
theorem feed_law {a b c d k n m : Int} (hv : vS a b c d = true) (h1 : -9 ≤ a ∧ a ≤ 9) (h2 : -9 ≤ b ∧ b ≤ 9) (h3 : -9 ≤ c ∧ c ≤ 9) (h4 : -9 ≤ d ∧ d ≤ 9) (hk : -20 ≤ k ∧ k ≤ 20) (hq : vQ n m = true) (hn : -300 ≤ n ∧ n ≤ 300) (hm : m ≤ 300) (h0 : n ≠ 0) :
    feedF a b c d k = (⟨a * k + b, a, c * k + d, c⟩, 0) ∧ ∃ iN iD tN tD, plainQ (1 * m) (1 * n) = (⟨iN, iD⟩, 0) ∧ vQ iN iD = true ∧ plainQ (k * iD + iN * 1) (1 * iD) = (⟨tN, tD⟩, 0) ∧ vQ tN tD = true ∧
      atF (a * k + b) a (c * k + d) c n m = atF a b c d tN tD := by
  have hdet := vS_det hv
  have m1 := mul_abs (a := a) (b := k) (A := 9) (B := 20) (by omega) (by omega)
  have m2 := mul_abs (a := c) (b := k) (A := 9) (B := 20) (by omega) (by omega)
  have hm1 := (vQ_iff.1 hq).2.1
  have hv2 : vS (a * k + b) a (c * k + d) c = true := vS_mk (by omega) (by omega) (by omega) (by omega) (by
    intro e
    apply hdet
    have : (a * k + b) * c - a * (c * k + d) = b * c - a * d := by grind
    omega)
  refine ⟨?_, ?_⟩
  · unfold feedF plainF
    rw [if_pos hv, if_pos (inR_iff.2 (by omega)), if_pos hv2]
  · have hn1 : (1 : Int) * n ≠ 0 := by omega
    obtain ⟨iv, iq⟩ := plainQ_ok (a := 1 * m) hn1 (by omega) (by omega)
    have il := low_of (a := 1 * m) hn1
    have ile := low_le (a := 1 * m) hn1
    generalize lowN (1 * m) (1 * n) = iN at *
    generalize lowD (1 * m) (1 * n) = iD at *
    have ip := il.pos
    have hib : (-300 ≤ iN ∧ iN ≤ 300) ∧ iD ≤ 300 := by
      obtain ⟨l1, l2⟩ := ile
      unfold ab at l1 l2
      omega
    have m3 := mul_abs (a := k) (b := iD) (A := 20) (B := 300) (by omega) (by omega)
    obtain ⟨tv, tq⟩ := plainQ_ok (a := k * iD + iN * 1) (b := 1 * iD) (by omega) (by omega) (by omega)
    have tl := low_of (a := k * iD + iN * 1) (b := 1 * iD) (by omega)
    generalize lowN (k * iD + iN * 1) (1 * iD) = tN at *
    generalize lowD (k * iD + iN * 1) (1 * iD) = tD at *
    have tp := tl.pos
    refine ⟨iN, iD, tN, tD, iq, iv, tq, tv, ?_⟩
    have icr : iN * n = m * iD := by have := il.crs; rw [Int.one_mul, Int.one_mul] at this; exact this
    have tcr : tN * iD = (k * iD + iN) * tD := by have := tl.crs; rw [Int.one_mul, Int.mul_one] at this; exact this
    -- tN / tD = k + m / n
    have tn : tN * n = (k * n + m) * tD := by
      apply Int.eq_of_mul_eq_mul_right (by omega : iD ≠ 0)
      have e1 : tN * n * iD = (tN * iD) * n := by grind
      have e2 : (k * n + m) * tD * iD = ((k * iD) * n + (m * iD)) * tD := by grind
      rw [e1, e2, tcr, ← icr]; grind
    rw [atF_ok hv2 hq, atF_ok hv tv]
    apply at_same
    · constructor
      · intro e
        have : (c * tN + d * tD) * n = 0 := by
          have e1 : (c * tN + d * tD) * n = c * (tN * n) + d * tD * n := by grind
          have e2 : c * ((k * n + m) * tD) + d * tD * n = ((c * k + d) * n + c * m) * tD := by grind
          rw [e1, tn, e2, e, Int.zero_mul]
        rcases Int.mul_eq_zero.1 this with h | h
        · exact h
        · exact absurd h h0
      · intro e
        have : ((c * k + d) * n + c * m) * tD = 0 := by
          have e1 : ((c * k + d) * n + c * m) * tD = c * ((k * n + m) * tD) + d * tD * n := by grind
          have e2 : c * (tN * n) + d * tD * n = (c * tN + d * tD) * n := by grind
          rw [e1, ← tn, e2, e, Int.zero_mul]
        rcases Int.mul_eq_zero.1 this with h | h
        · exact h
        · omega
    · apply Int.eq_of_mul_eq_mul_right (by omega : tD ≠ 0)
      apply Int.eq_of_mul_eq_mul_right h0
      have e1 : ((a * k + b) * n + a * m) * (c * tN + d * tD) * tD * n = (((k * n + m) * tD) * a + b * n * tD) * (c * (tN * n) + d * tD * n) := by grind
      have e2 : (a * tN + b * tD) * ((c * k + d) * n + c * m) * tD * n = (a * (tN * n) + b * tD * n) * (c * ((k * n + m) * tD) + d * n * tD) := by grind
      rw [e1, e2, tn]; grind
/-- The inverse leads back. -/
theorem back_law {a b c d n m yN yD : Int} (hv : vS a b c d = true) (h1 : -9 ≤ a ∧ a ≤ 9) (h2 : -9 ≤ b ∧ b ≤ 9) (h3 : -9 ≤ c ∧ c ≤ 9) (h4 : -9 ≤ d ∧ d ≤ 9) (hq : vQ n m = true) (hn : -300 ≤ n ∧ n ≤ 300) (hm : m ≤ 300)
    (hy : atF a b c d n m = (⟨yN, yD⟩, 0)) : vQ yN yD = true ∧ atF d (-b) (-c) a yN yD = (⟨n, m⟩, 0) := by
  have hdet := vS_det hv
  have hm1 := (vQ_iff.1 hq).2.1
  rw [atF_ok hv hq] at hy
  by_cases hB : c * n + d * m = 0
  · rw [if_pos (by simp [hB])] at hy
    simp at hy
  · rw [if_neg (by simp [hB])] at hy
    have m1 := mul_abs (a := a) (b := n) (A := 9) (B := 300) (by omega) (by omega)
    have m2 := mul_abs (a := b) (b := m) (A := 9) (B := 300) (by omega) (by omega)
    have m3 := mul_abs (a := c) (b := n) (A := 9) (B := 300) (by omega) (by omega)
    have m4 := mul_abs (a := d) (b := m) (A := 9) (B := 300) (by omega) (by omega)
    obtain ⟨yv, yq⟩ := plainQ_ok (a := a * n + b * m) hB (by omega) (by omega)
    have yl := low_of (a := a * n + b * m) hB
    rw [yq] at hy
    simp only [Prod.mk.injEq, Fr.mk.injEq, and_true] at hy
    obtain ⟨rfl, rfl⟩ := hy
    refine ⟨yv, ?_⟩
    generalize lowN (a * n + b * m) (c * n + d * m) = yN at *
    generalize lowD (a * n + b * m) (c * n + d * m) = yD at *
    have hv2 : vS d (-b) (-c) a = true := vS_mk (by omega) (by omega) (by omega) (by omega) (by
      intro e
      apply hdet
      have : -b * -c = b * c := Int.neg_mul_neg b c
      rw [this, Int.mul_comm] at e
      exact e)
    have yp := yl.pos
    have ycr := yl.crs
    rw [atF_ok hv2 yv]
    -- (d yN - b yD) B = (a d - b c) n yD and (-c yN + a yD) B = (a d - b c) m yD
    have k1 : (d * yN + -b * yD) * (c * n + d * m) = (a * d - b * c) * n * yD := by
      have e : (d * yN + -b * yD) * (c * n + d * m) = d * (yN * (c * n + d * m)) - b * yD * (c * n + d * m) := by grind
      rw [e, ycr]; grind
    have k2 : (-c * yN + a * yD) * (c * n + d * m) = (a * d - b * c) * m * yD := by
      have e : (-c * yN + a * yD) * (c * n + d * m) = -(c * (yN * (c * n + d * m))) + a * yD * (c * n + d * m) := by grind
      rw [e, ycr]; grind
    have hD : -c * yN + a * yD ≠ 0 := by
      intro e
      rw [e, Int.zero_mul] at k2
      rcases Int.mul_eq_zero.1 k2.symm with h | h
      · rcases Int.mul_eq_zero.1 h with h | h
        · apply hdet; omega
        · omega
      · omega
    rw [if_neg (by simp only [beq_iff_eq]; exact hD)]
    refine plainQ_is hq hD ?_
    apply Int.eq_of_mul_eq_mul_right hB
    have e1 : (d * yN + -b * yD) * m * (c * n + d * m) = ((d * yN + -b * yD) * (c * n + d * m)) * m := by grind
    have e2 : n * (-c * yN + a * yD) * (c * n + d * m) = ((-c * yN + a * yD) * (c * n + d * m)) * n := by grind
    rw [e1, e2, k1, k2]; grind
/-- Joined states. -/
theorem join_law {a b c d e f g h n m : Int} (hv : vS a b c d = true) (hv2 : vS e f g h = true) (h1 : -9 ≤ a ∧ a ≤ 9) (h2 : -9 ≤ b ∧ b ≤ 9) (h3 : -9 ≤ c ∧ c ≤ 9) (h4 : -9 ≤ d ∧ d ≤ 9)
    (h5 : -9 ≤ e ∧ e ≤ 9) (h6 : -9 ≤ f ∧ f ≤ 9) (h7 : -9 ≤ g ∧ g ≤ 9) (h8 : -9 ≤ h ∧ h ≤ 9) (hq : vQ n m = true) (hn : -300 ≤ n ∧ n ≤ 300) (hm : m ≤ 300) :
    ∃ A B C D, joinF a b c d e f g h = (⟨A, B, C, D⟩, 0) ∧ vS A B C D = true ∧ ∀ iN iD, atF e f g h n m = (⟨iN, iD⟩, 0) → vQ iN iD = true ∧ atF A B C D n m = atF a b c d iN iD := by
  have hdet := vS_det hv
  have hdet2 := vS_det hv2
  have hm1 := (vQ_iff.1 hq).2.1
  have p : ∀ {x y : Int}, (-9 ≤ x ∧ x ≤ 9) → (-9 ≤ y ∧ y ≤ 9) → -81 ≤ x * y ∧ x * y ≤ 81 := fun hx hy => by
    have := mul_abs (A := 9) (B := 9) hx hy
    omega
  have p1 := p h1 h5
  have p2 := p h2 h7
  have p3 := p h1 h6
  have p4 := p h2 h8
  have p5 := p h3 h5
  have p6 := p h4 h7
  have p7 := p h3 h6
  have p8 := p h4 h8
  have hprod : (a * e + b * g) * (c * f + d * h) - (a * f + b * h) * (c * e + d * g) = (a * d - b * c) * (e * h - f * g) := by grind
  have hne : (a * d - b * c) * (e * h - f * g) ≠ 0 := Int.mul_ne_zero (by omega) (by omega)
  have hJ : joinF a b c d e f g h = joinP (a * e + b * g) (a * f + b * h) (c * e + d * g) (c * f + d * h) := by unfold joinF; rw [if_pos ⟨hv, hv2⟩]
  rw [hJ]
  have b1 : -162 ≤ a * e + b * g ∧ a * e + b * g ≤ 162 := by omega
  have b2 : -162 ≤ a * f + b * h ∧ a * f + b * h ≤ 162 := by omega
  have b3 : -162 ≤ c * e + d * g ∧ c * e + d * g ≤ 162 := by omega
  have b4 : -162 ≤ c * f + d * h ∧ c * f + d * h ≤ 162 := by omega
  generalize hP : a * e + b * g = P at *
  generalize hQ : a * f + b * h = Q at *
  generalize hR : c * e + d * g = R at *
  generalize hS : c * f + d * h = S at *
  have hnz : ¬ (P = 0 ∧ Q = 0 ∧ R = 0 ∧ S = 0) := by
    rintro ⟨r1, r2, r3, r4⟩
    rw [r1, r2, r3, r4] at hprod
    apply hne
    rw [← hprod]; rfl
  have hg := gI4_pos hnz
  obtain ⟨⟨A, hA⟩, ⟨B, hB⟩, ⟨C, hC⟩, ⟨D, hD⟩⟩ := gI4_dvd (a := P) (b := Q) (c := R) (d := S)
  generalize hG : gI4 P Q R S = G at *
  have dv : ∀ {x y : Int}, x = G * y → x / G = y := fun hh => by rw [hh, Int.mul_ediv_cancel_left _ (by omega)]
  have sm : ∀ {x y : Int}, x = G * y → (-162 ≤ x ∧ x ≤ 162) → -162 ≤ y ∧ y ≤ 162 := fun {x y} hh hb => by
    have h1 : y.natAbs ≤ x.natAbs := by rw [hh, Int.natAbs_mul]; exact Nat.le_mul_of_pos_left _ (by omega)
    omega
  have c1 := sm hA b1
  have c2 := sm hB b2
  have c3 := sm hC b3
  have c4 := sm hD b4
  have hvJ : vS A B C D = true := vS_mk (by omega) (by omega) (by omega) (by omega) (by
    intro ee
    apply hne
    rw [← hprod, hA, hB, hC, hD]
    have : G * A * (G * D) - G * B * (G * C) = G * G * (A * D - B * C) := by grind
    rw [this, ee]; simp)
  refine ⟨A, B, C, D, ?_, hvJ, ?_⟩
  · unfold joinP plainF
    rw [hG, dv hA, dv hB, dv hC, dv hD, if_pos hvJ]
  · intro iN iD hi
    rw [atF_ok hv2 hq] at hi
    by_cases hB0 : g * n + h * m = 0
    · rw [if_pos (by simp [hB0])] at hi
      simp at hi
    · rw [if_neg (by simp [hB0])] at hi
      have m1 := mul_abs (a := e) (b := n) (A := 9) (B := 300) (by omega) (by omega)
      have m2 := mul_abs (a := f) (b := m) (A := 9) (B := 300) (by omega) (by omega)
      have m3 := mul_abs (a := g) (b := n) (A := 9) (B := 300) (by omega) (by omega)
      have m4 := mul_abs (a := h) (b := m) (A := 9) (B := 300) (by omega) (by omega)
      obtain ⟨yv, yq⟩ := plainQ_ok (a := e * n + f * m) hB0 (by omega) (by omega)
      have yl := low_of (a := e * n + f * m) hB0
      rw [yq] at hi
      simp only [Prod.mk.injEq, Fr.mk.injEq, and_true] at hi
      obtain ⟨rfl, rfl⟩ := hi
      refine ⟨yv, ?_⟩
      generalize lowN (e * n + f * m) (g * n + h * m) = iN at *
      generalize lowD (e * n + f * m) (g * n + h * m) = iD at *
      have ip := yl.pos
      have icr := yl.crs
      rw [atF_ok hvJ hq, atF_ok hv yv]
      have hG0 : G ≠ 0 := by omega
      -- G (C n + D m) iD = (c iN + d iD) (g n + h m), and so for A, B
      have k1 : G * (C * n + D * m) * iD = (c * iN + d * iD) * (g * n + h * m) := by
        have e1 : (c * iN + d * iD) * (g * n + h * m) = c * (iN * (g * n + h * m)) + d * iD * (g * n + h * m) := by grind
        have e2 : G * (C * n + D * m) * iD = ((G * C) * n + (G * D) * m) * iD := by grind
        rw [e1, icr, e2, ← hC, ← hD, ← hR, ← hS]; grind
      have k2 : G * (A * n + B * m) * iD = (a * iN + b * iD) * (g * n + h * m) := by
        have e1 : (a * iN + b * iD) * (g * n + h * m) = a * (iN * (g * n + h * m)) + b * iD * (g * n + h * m) := by grind
        have e2 : G * (A * n + B * m) * iD = ((G * A) * n + (G * B) * m) * iD := by grind
        rw [e1, icr, e2, ← hA, ← hB, ← hP, ← hQ]; grind
      apply at_same
      · constructor
        · intro e0
          rw [e0, Int.mul_zero, Int.zero_mul] at k1
          rcases Int.mul_eq_zero.1 k1.symm with h | h
          · exact h
          · exact absurd h hB0
        · intro e0
          rw [e0, Int.zero_mul] at k1
          rcases Int.mul_eq_zero.1 k1 with h | h
          · rcases Int.mul_eq_zero.1 h with h | h
            · exact absurd h hG0
            · exact h
          · omega
      · apply Int.eq_of_mul_eq_mul_left hG0
        apply Int.eq_of_mul_eq_mul_right (by omega : iD ≠ 0)
        have e1 : G * ((A * n + B * m) * (c * iN + d * iD)) * iD = (G * (A * n + B * m) * iD) * (c * iN + d * iD) := by grind
        have e2 : G * ((a * iN + b * iD) * (C * n + D * m)) * iD = (G * (C * n + D * m) * iD) * (a * iN + b * iD) := by grind
        rw [e1, e2, k1, k2]; grind
end Go.Proofs.YtfnjboaocalidaaDoor
