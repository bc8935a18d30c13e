/- The square root of a double of a number up to 4 10^18, cut to an integer, lies between 0 and 2^31: plain arithmetic on IEEE words, no program. -/
import Ieee.Arith
namespace Go.Proofs.YtodbmnbahldabaaDoor.FlSqrt
open Ieee

theorem two52 : (2:Nat)^52 = 4503599627370496 := by decide
theorem two53 : (2:Nat)^53 = 9007199254740992 := by decide

theorem binade_d : double.binade = 4503599627370496 := by decide
theorem inf_d : double.infRung = 2047 * 4503599627370496 := by decide
theorem least_d : double.leastPlace = -1074 := by decide
theorem sign_d : double.signWeight = 9223372036854775808 := by decide

/-- A word whose significand is full reads as that significand. -/
theorem read_norm (e k : Nat) (he : e ≤ 2040) (h1 : 4503599627370496 ≤ k) (h2 : k < 9007199254740992) :
    double.read (e * 4503599627370496 + k) = .number false k (-1074 + e) := by
  have a1 : (e * 4503599627370496 + k) / 9223372036854775808 % 2 = 0 := by omega
  have a2 : (e * 4503599627370496 + k) % 9223372036854775808 = e * 4503599627370496 + k := by omega
  have a3 : ¬ (e * 4503599627370496 + k < 4503599627370496) := by omega
  have a4 : e * 4503599627370496 + k < 2047 * 4503599627370496 := by omega
  have a5 : (e * 4503599627370496 + k) % 4503599627370496 = k - 4503599627370496 := by omega
  have a6 : (e * 4503599627370496 + k) / 4503599627370496 - 1 = e := by omega
  unfold Format.read
  simp only [sign_d, binade_d, inf_d, least_d, a1, a2, a3, a4, a5, a6, if_true, if_false]
  simp
  omega
theorem read_zero : double.read 0 = .number false 0 (-1074) := by
  unfold Format.read
  simp only [sign_d, binade_d, inf_d, least_d]
  simp

theorem log_bounds {n : Nat} (h : n ≠ 0) : 2 ^ n.log2 ≤ n ∧ n < 2 ^ (n.log2 + 1) := ⟨Nat.log2_self_le h, Nat.lt_log2_self⟩

theorem toNat_le_one (b : Bool) : b.toNat ≤ 1 := by cases b <;> decide

/-- What is kept of a number of L + 1 binary digits: 53 digits, rounded. -/
theorem cut_le (way : Toward) (neg : Bool) (n drop : Nat) : way.cut neg n drop ≤ n / (1 <<< min drop (n.log2 + 2)) + 1 := by
  unfold Toward.cut
  simp only
  have := toNat_le_one (match way with
    | .even => decide ((1 <<< min drop (n.log2 + 2)) < 2 * (n % (1 <<< min drop (n.log2 + 2)))) || ((1 <<< min drop (n.log2 + 2)) == 2 * (n % (1 <<< min drop (n.log2 + 2))) && n / (1 <<< min drop (n.log2 + 2)) % 2 == 1)
    | .down => neg && n % (1 <<< min drop (n.log2 + 2)) != 0
    | .up => !neg && n % (1 <<< min drop (n.log2 + 2)) != 0
    | .zero => false)
  exact Nat.add_le_add_left this _
theorem cut_ge (way : Toward) (neg : Bool) (n drop : Nat) : n / (1 <<< min drop (n.log2 + 2)) ≤ way.cut neg n drop := by
  unfold Toward.cut
  exact Nat.le_add_right _ _
theorem cut_zero_eq (neg : Bool) (n drop : Nat) : Toward.zero.cut neg n drop = n / (1 <<< min drop (n.log2 + 2)) := by
  unfold Toward.cut
  simp
theorem cut_none (neg : Bool) (n : Nat) : Toward.even.cut neg n 0 = n := by
  unfold Toward.cut
  simp [Nat.mod_one]

theorem pow_split {L k : Nat} (h : k ≤ L) : 2 ^ L = 2 ^ (L - k) * 2 ^ k := by rw [← Nat.pow_add, Nat.sub_add_cancel h]
/-- The rung stays below infinity. -/
theorem min_rung (e K B : Nat) (hB : B = 4503599627370496) (he : e ≤ 2000) (hK : K ≤ 2 * B) : min (e * B + K) (2047 * B) = e * B + K := by
  have : e * B ≤ 2000 * B := Nat.mul_le_mul_right _ he
  omega

theorem shl (a k : Nat) : a <<< k = a * 2 ^ k := Nat.shiftLeft_eq a k

/-- A positive number, written and read again: a full significand m at place p, p the last place kept or (then m is the least) one more. -/
theorem nearest_read (mag : Nat) (place : Int) (h0 : mag ≠ 0) (hlo : -1074 ≤ place + mag.log2 - 52) (hhi : place + mag.log2 - 52 ≤ 900) :
    ∃ (m : Nat) (p : Int), double.read (double.nearest false mag place) = .number false m p ∧ 4503599627370496 ≤ m ∧ m < 9007199254740992 ∧
      (p = place + mag.log2 - 52 ∨ (p = place + mag.log2 - 52 + 1 ∧ m = 4503599627370496 ∧ 52 < mag.log2 ∧ 9007199254740992 ≤ mag / 2 ^ (mag.log2 - 52) + 1)) := by
  obtain ⟨l1, l2⟩ := log_bounds h0
  generalize hL : mag.log2 = L at *
  -- the kept digits
  have key : ∃ kept : Nat, double.nearest false mag place = (place + L - 52 + 1074).toNat * 4503599627370496 + kept ∧ 4503599627370496 ≤ kept ∧ (kept < 9007199254740992 ∨ (kept = 9007199254740992 ∧ 52 < L ∧ 9007199254740992 ≤ mag / 2 ^ (L - 52) + 1)) := by
    have hlast : max (place + (L : Int) - (52 : Nat)) (-1074) = place + L - 52 := by omega
    unfold Format.nearest
    rw [if_neg h0]
    simp only [least_d, binade_d, inf_d, hL]
    have hfb : double.fractionBits = 52 := by decide
    rw [hfb, hlast]
    rcases Nat.lt_or_ge 52 L with hl | hl
    · -- digits are dropped
      have e1 : (place - (place + (L : Int) - 52)).toNat = 0 := by omega
      have e2 : (place + (L : Int) - 52 - place).toNat = L - 52 := by omega
      have e3 : place + (L : Int) - 52 - -1074 = place + L - 52 + 1074 := by omega
      rw [e1, e2, e3, shl, Nat.pow_zero, Nat.mul_one]
      have g1 := cut_le .even false mag (L - 52)
      have g2 := cut_ge .even false mag (L - 52)
      rw [hL, show min (L - 52) (L + 2) = L - 52 from by omega, shl, Nat.one_mul] at g1 g2
      have p1 : 2 ^ L = 2 ^ (L - 52) * 2 ^ 52 := pow_split (by omega)
      have p2 : 2 ^ (L + 1) = 2 ^ (L - 52) * 2 ^ 53 := by have := pow_split (L := L + 1) (k := 53) (by omega); rwa [show L + 1 - 53 = L - 52 from by omega] at this
      have pos : 0 < 2 ^ (L - 52) := Nat.two_pow_pos _
      have q1 : 2 ^ 52 ≤ mag / 2 ^ (L - 52) := by
        rw [Nat.le_div_iff_mul_le pos, Nat.mul_comm]; omega
      have q2 : mag / 2 ^ (L - 52) < 2 ^ 53 := by
        rw [Nat.div_lt_iff_lt_mul pos, Nat.mul_comm]; omega
      rw [two52] at q1
      rw [two53] at q2
      clear p1 p2 l1 l2 pos
      generalize Toward.even.cut false mag (L - 52) = K at *
      generalize mag / 2 ^ (L - 52) = Q at *
      clear hL e1 e2 e3
      have hmin := min_rung (place + (L : Int) - 52 + 1074).toNat K _ rfl (by omega) (by omega)
      have c1 : 4503599627370496 ≤ K := by omega
      have c2 : K < 9007199254740992 ∨ (K = 9007199254740992 ∧ 52 < L ∧ 9007199254740992 ≤ Q + 1) := by omega
      refine ⟨K, ?_, c1, c2⟩
      rw [hmin]; unfold Format.word; simp
    · have e1 : (place - (place + (L : Int) - 52)).toNat = 52 - L := by omega
      have e2 : (place + (L : Int) - 52 - place).toNat = 0 := by omega
      have e3 : place + (L : Int) - 52 - -1074 = place + L - 52 + 1074 := by omega
      rw [e1, e2, e3, cut_none, shl]
      have pos : 0 < 2 ^ (52 - L) := Nat.two_pow_pos _
      have p1 : 2 ^ L * 2 ^ (52 - L) = 2 ^ 52 := by rw [← Nat.pow_add, Nat.add_sub_cancel' hl]
      have p2 : 2 ^ (L + 1) * 2 ^ (52 - L) = 2 ^ 53 := by rw [← Nat.pow_add, show L + 1 + (52 - L) = 53 from by omega]
      have q1 : 2 ^ 52 ≤ mag * 2 ^ (52 - L) := by rw [← p1]; exact Nat.mul_le_mul_right _ l1
      have q2 : mag * 2 ^ (52 - L) < 2 ^ 53 := by rw [← p2]; exact Nat.mul_lt_mul_of_pos_right l2 pos
      rw [two52] at q1
      rw [two53] at q2
      clear p1 p2 l1 l2 pos
      generalize mag * 2 ^ (52 - L) = K at *
      clear hL e1 e2 e3
      have hmin := min_rung (place + (L : Int) - 52 + 1074).toNat K _ rfl (by omega) (by omega)
      refine ⟨K, ?_, by omega, .inl (by omega)⟩
      rw [hmin]; simp [Format.word]
  obtain ⟨K, hK, k1, k2⟩ := key
  rw [hK]
  rcases k2 with k2 | ⟨k2, k3, k4⟩
  · refine ⟨K, _, read_norm _ K (by omega) k1 k2, k1, k2, .inl (by omega)⟩
  · subst k2
    have e : (place + (L : Int) - 52 + 1074).toNat * 4503599627370496 + 9007199254740992 = ((place + (L : Int) - 52 + 1074).toNat + 1) * 4503599627370496 + 4503599627370496 := by omega
    rw [e]
    exact ⟨4503599627370496, _, read_norm _ _ (by omega) (by omega) (by omega), by omega, by omega, .inr ⟨by omega, rfl, k3, k4⟩⟩

theorem rootFrom_sq (n : Nat) : ∀ (todo root : Nat), root * root ≤ n → Datum.rootFrom n todo root * Datum.rootFrom n todo root ≤ n := by
  intro todo
  induction todo with
  | zero => intro root h; exact h
  | succ k ih =>
    intro root h
    unfold Datum.rootFrom
    simp only
    split
    · rename_i h1; exact ih _ h1
    · exact ih _ h
theorem lt_of_sq {a X : Nat} (h : a * a < 2 ^ (2 * X)) : a < 2 ^ X := by
  rcases Nat.lt_or_ge a (2 ^ X) with h1 | h1
  · exact h1
  · have h2 : 2 ^ X * 2 ^ X ≤ a * a := Nat.mul_le_mul h1 h1
    rw [← Nat.pow_add, show X + X = 2 * X from by omega] at h2
    omega
theorem log52 {m : Nat} (h1 : 4503599627370496 ≤ m) (h2 : m < 9007199254740992) : m.log2 = 52 := by
  have h0 : m ≠ 0 := by omega
  have a : 52 ≤ m.log2 := (Nat.le_log2 h0).2 (by rw [two52]; exact h1)
  have b : m.log2 < 53 := (Nat.log2_lt h0).2 (by rw [two53]; exact h2)
  omega
theorem toInt_zero : (double.read 0).toInt .zero = some 0 := by
  rw [read_zero]
  unfold Datum.toInt Datum.integral
  simp only [cut_zero_eq, shl, Nat.zero_mul, Nat.zero_div]
  simp [signed]
/-- A full significand at a place of at most -21 is at most 2 ^ 31. -/
theorem toInt_small (m : Nat) (p : Int) (h1 : 4503599627370496 ≤ m) (h2 : m < 9007199254740992) (hp : p ≤ -22 ∨ (p = -21 ∧ m = 4503599627370496)) :
    ∃ k : Int, (Datum.number false m p).toInt .zero = some k ∧ 0 ≤ k ∧ k ≤ 2147483648 := by
  unfold Datum.toInt Datum.integral
  simp only [cut_zero_eq, shl]
  have e1 : p.toNat = 0 := by omega
  rw [e1, Nat.pow_zero, Nat.mul_one, log52 h1 h2, Nat.one_mul]
  refine ⟨_, rfl, ?_, ?_⟩
  · unfold signed
    simp only [Bool.false_eq_true, if_false]
    exact Int.natCast_nonneg _
  · unfold signed
    simp only [Bool.false_eq_true, if_false, shl, Nat.pow_zero, Nat.mul_one]
    rcases hp with hp | ⟨hp, hm⟩
    · have a : 2 ^ 22 ≤ 2 ^ min (-p).toNat (52 + 2) := Nat.pow_le_pow_right (by omega) (by omega)
      have b : m / 2 ^ min (-p).toNat (52 + 2) ≤ m / 2 ^ 22 := Nat.div_le_div_left a (Nat.two_pow_pos _)
      have c : (2 : Nat) ^ 22 = 4194304 := by decide
      rw [c] at b
      omega
    · subst hm hp
      decide
theorem sqrt_small (n : Nat) (hn : n ≤ 4000000000000000000) :
    ∃ (r : Nat) (k : Int), double.sqrt (double.nearest false n 0) = some r ∧ (double.read r).toInt .zero = some k ∧ 0 ≤ k ∧ k ≤ 2147483648 := by
  have hz : double.nearest false 0 (-1074) = 0 := by unfold Format.nearest Format.word; simp
  have hz' : ∀ q : Int, double.nearest false 0 q = 0 := by intro q; unfold Format.nearest Format.word; simp
  by_cases h0 : n = 0
  · subst h0
    refine ⟨0, 0, ?_, toInt_zero, by omega, by omega⟩
    rw [hz']
    unfold Format.sqrt
    rw [read_zero]
    unfold Datum.root
    simp [Format.write, hz']
  · have hL : n.log2 ≤ 61 := by
      have : n.log2 < 62 := (Nat.log2_lt h0).2 (by have : (2:Nat)^62 = 4611686018427387904 := by decide
                                                   omega)
      omega
    obtain ⟨m, p, hr, m1, m2, hp⟩ := nearest_read n 0 h0 (by omega) (by omega)
    have hp9 : p ≤ 9 ∧ -52 ≤ p := by
      rcases hp with hp | ⟨hp, hm, hl, hc⟩
      · omega
      · rcases Nat.lt_or_ge n.log2 61 with h61 | h61
        · omega
        · exfalso
          have e : n.log2 = 61 := by omega
          rw [e] at hc
          have c : (2 : Nat) ^ (61 - 52) = 512 := by decide
          rw [c] at hc
          omega
    clear hp
    unfold Format.sqrt
    rw [hr]
    have hfb : double.fractionBits + 2 = 54 := by decide
    rw [hfb]
    unfold Datum.root
    have hm0 : m ≠ 0 := by omega
    simp only [if_neg hm0, Bool.false_eq_true, if_false, log52 m1 m2]
    have hmore : 2 * 54 - 52 = 56 := by decide
    rw [hmore]
    obtain ⟨M, hM, hM2, hMe⟩ : ∃ M : Nat, 56 + ((p - (56 : Nat)) % 2).toNat = M ∧ (M = 56 ∨ M = 57) ∧ (p - (M : Int)) % 2 = 0 := ⟨_, rfl, by omega, by omega⟩
    rw [hM]
    have hsq := rootFrom_sq (m <<< M) ((m <<< M).log2 / 2 + 1) 0 (by simp)
    generalize Datum.rootFrom (m <<< M) ((m <<< M).log2 / 2 + 1) 0 = W at *
    obtain ⟨E, hE⟩ : ∃ E : Int, (p - (M : Int)) / 2 = E := ⟨_, rfl⟩
    rw [hE]
    have hE2 : p - M = 2 * E := by omega
    have hW : W < 2 ^ (31 - E).toNat := by
      apply lt_of_sq
      rw [shl] at hsq
      have h1 : m * 2 ^ M < 2 ^ 53 * 2 ^ M := Nat.mul_lt_mul_of_pos_right (by rw [two53]; exact m2) (Nat.two_pow_pos _)
      rw [← Nat.pow_add] at h1
      have h2 : 2 ^ (53 + M) ≤ 2 ^ (2 * (31 - E).toNat) := Nat.pow_le_pow_right (by omega) (by omega)
      omega
    simp only [Option.map_some]
    generalize hb : (W * W != m <<< M).toNat = b
    have hb1 : b ≤ 1 := by rw [← hb]; exact toNat_le_one _
    unfold Format.write
    simp only
    by_cases hg : 2 * W + b = 0
    · rw [hg, hz']
      exact ⟨0, 0, rfl, toInt_zero, by omega, by omega⟩
    · have hl2 : (2 * W + b).log2 ≤ (31 - E).toNat := by
        have : (2 * W + b).log2 < (31 - E).toNat + 1 := (Nat.log2_lt hg).2 (by rw [Nat.pow_succ]; omega)
        omega
      obtain ⟨m3, p3, hr3, a1, a2, ha⟩ := nearest_read (2 * W + b) (E - 1) hg (by omega) (by omega)
      have hp3 : p3 ≤ -22 ∨ (p3 = -21 ∧ m3 = 4503599627370496) := by
        rcases ha with ha | ⟨ha, hm, -, -⟩
        · omega
        · omega
      obtain ⟨k, hk, k0, k1⟩ := toInt_small m3 p3 a1 a2 hp3
      exact ⟨_, k, rfl, by rw [hr3]; exact hk, k0, k1⟩
end Go.Proofs.YtodbmnbahldabaaDoor.FlSqrt
