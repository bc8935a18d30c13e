/- Quadratic forms: the steps to a reduced form come to an end; plain arithmetic. -/
import Derived.Test.YtodbmnbahldabaaDoorFormH
namespace Go.Proofs.YtodbmnbahldabaaDoor
set_option linter.unusedVariables false
theorem lt_of_mul4 {m C N : Int} (hm : 1 ≤ m) (hC : 0 ≤ C) (e : 4 * (m * C) = N) (h : N < 4 * (m * m)) : C < m := by
  rcases Int.lt_or_le C m with h1 | h1
  · exact h1
  · have := Int.mul_le_mul_of_nonneg_left h1 (by omega : 0 ≤ m)
    omega
theorem ab_mul (x y : Int) : ab (x * y) = ab x * ab y := by unfold ab; rw [Int.natAbs_mul]; rfl
theorem ab_sq (x : Int) : ab x * ab x = x * x := by
  rcases ab_sign x with h | h <;> rw [h]
  exact Int.neg_mul_neg x x
theorem sq_le_of_ab {x m : Int} (h1 : -m ≤ x) (h2 : x ≤ m) : x * x ≤ m * m := by
  rw [← ab_sq x]
  have : 0 ≤ ab x ∧ ab x ≤ m := by unfold ab; omega
  exact Int.mul_le_mul this.2 this.2 this.1 (by omega)
/-- For a discriminant above nought: where the next form is not reduced its last number is less than that of the form. -/
theorem falls_pos {c B C d r : Int} (hd : 0 < d) (r0 : 0 ≤ r) (r1 : r * r ≤ d) (r2 : d < (r + 1) * (r + 1)) (hc : c ≠ 0)
    (hB : (ab c ≤ r → r - 2 * ab c < B ∧ B ≤ r) ∧ (r < ab c → -(ab c) < B ∧ B ≤ ab c)) (he : B * B - d = 4 * c * C)
    (hn : ¬ (0 < B ∧ B ≤ r ∧ r - B < 2 * ab c ∧ 2 * ab c ≤ r + B)) : ab C < ab c := by
  have hm : 1 ≤ ab c := by unfold ab; omega
  have e4 : 4 * (ab c * ab C) = ab (B * B - d) := by
    rw [he, ab_mul, ab_mul]
    have : ab 4 = 4 := rfl
    rw [this, Int.mul_assoc]
  have hC := ab_nonneg C
  generalize ab c = m at *
  rcases Int.lt_or_le r m with h | h
  · obtain ⟨b1, b2⟩ := hB.2 h
    have q1 : B * B ≤ m * m := sq_le_of_ab (by omega) (by omega)
    have q2 : (r + 1) * (r + 1) ≤ m * m := Int.mul_le_mul (by omega) (by omega) (by omega) (by omega)
    have q0 : 0 ≤ B * B := by rw [← ab_sq]; exact Int.mul_nonneg (ab_nonneg _) (ab_nonneg _)
    have q3 : 1 ≤ m * m := by
      have := Int.mul_le_mul hm hm (by omega) (by omega)
      omega
    refine lt_of_mul4 hm hC e4 ?_
    unfold ab
    omega
  · obtain ⟨b1, b2⟩ := hB.1 h
    have h2 : r + 1 + B ≤ 2 * m := by
      rcases Int.lt_or_le (r + B) (2 * m) with h3 | h3
      · omega
      · exact absurd ⟨by omega, by omega, by omega, by omega⟩ hn
    have h3 : r + 1 - B ≤ 2 * m := by omega
    have q1 := Int.mul_le_mul h2 h3 (by omega) (by omega)
    have q2 : (r + 1 + B) * (r + 1 - B) = (r + 1) * (r + 1) - B * B := by grind
    have q3 : 2 * m * (2 * m) = 4 * (m * m) := by grind
    have q4 : B * B ≤ r * r := sq_le_of_ab (by omega) (by omega)
    refine lt_of_mul4 hm hC e4 ?_
    unfold ab
    omega
theorem pos_of_mul_pos {a b : Int} (ha : 0 < a) (h : 0 < a * b) : 0 < b := by
  rcases Int.lt_or_le 0 b with h1 | h1
  · exact h1
  · have := Int.mul_nonpos_of_nonneg_of_nonpos (Int.le_of_lt ha) h1
    omega
theorem sq_nonneg (x : Int) : 0 ≤ x * x := by rw [← ab_sq]; exact Int.mul_nonneg (ab_nonneg _) (ab_nonneg _)
/-- For a discriminant below nought: the last number falls, or the form behind the next one is reduced. -/
theorem falls_neg {c B C d B2 C2 : Int} (hd : d < 0) (hc : 0 < c) (b1 : -c < B) (b2 : B ≤ c) (he : B * B - d = 4 * c * C)
    (hB2 : B2 = C - (C + B) % (2 * C)) (he2 : B2 * B2 - d = 4 * C * C2)
    (hn : ¬ (ab B ≤ c ∧ c ≤ C ∧ (0 ≤ B ∨ (ab B < c ∧ c < C)))) (hn2 : ¬ (ab B2 ≤ C ∧ C ≤ C2 ∧ (0 ≤ B2 ∨ (ab B2 < C ∧ C < C2)))) : ab C < ab c := by
  have hq := sq_nonneg B
  have hC : 0 < C := pos_of_mul_pos (a := 4 * c) (by omega) (by omega)
  rw [ab_pos (by omega), ab_pos (by omega)]
  have a1 : ab B ≤ c := by unfold ab; omega
  rcases Int.lt_or_le C c with h | h
  · exact h
  · exfalso
    have hBn : B < 0 := by
      rcases Int.lt_or_le B 0 with h1 | h1
      · exact h1
      · exact absurd ⟨a1, h, .inl h1⟩ hn
    have a2 : ab B < c := by unfold ab; omega
    have hCc : C = c := by
      rcases Int.lt_or_le c C with h1 | h1
      · exact absurd ⟨a1, h, .inr ⟨a2, h1⟩⟩ hn
      · omega
    subst hCc
    have m1 : (C + B) % (2 * C) = C + B := Int.emod_eq_of_lt (by omega) (by omega)
    rw [m1] at hB2
    have e2 : B2 = -B := by omega
    subst e2
    rw [Int.neg_mul_neg, he] at he2
    have e3 : C = C2 := Int.eq_of_mul_eq_mul_left (by omega : 4 * C ≠ 0) he2
    subst e3
    exact hn2 ⟨by unfold ab; omega, by omega, .inl (by omega)⟩
/-- How far a form is from a reduced one. -/
def muF (f : Fm) : Nat := if redF f.a f.b f.c = true then 0 else if redF (stepF f.a f.b f.c).a (stepF f.a f.b f.c).b (stepF f.a f.b f.c).c = true then 1 else 2 + f.c.natAbs
theorem step_disc {a b c : Int} (ha : -10000 ≤ a ∧ a ≤ 10000) (hb : -10000 ≤ b ∧ b ≤ 10000) (hc : -10000 ≤ c ∧ c ≤ 10000) (h0 : c ≠ 0) :
    dF (stepF a b c).a (stepF a b c).b (stepF a b c).c = dF a b c := by
  obtain ⟨-, f2, -⟩ := step_facts ha hb hc h0
  show stB b c (dF a b c) * stB b c (dF a b c) - 4 * c * stC a b c (dF a b c) = dF a b c
  omega
theorem red_iff_pos {a b c : Int} (hd : ¬ dF a b c < 0) : redF a b c = true ↔ 0 < b ∧ b ≤ rt (dF a b c) ∧ rt (dF a b c) - b < 2 * ab a ∧ 2 * ab a ≤ rt (dF a b c) + b := by
  unfold redF
  rw [redD_pos hd]
  simp
theorem red_iff_neg {a b c : Int} (hd : dF a b c < 0) : redF a b c = true ↔ ab b ≤ a ∧ a ≤ c ∧ (0 ≤ b ∨ (ab b < a ∧ a < c)) := by
  unfold redF
  rw [redD_neg hd]
  simp
theorem vF_cpos {a b c : Int} (hv : vF a b c = true) (hd : dF a b c < 0) : 0 < c ∧ 0 < a := by
  obtain ⟨-, h⟩ := vF_d hv
  have ha : 0 < a := by omega
  have e : dF a b c = b * b - 4 * a * c := rfl
  have hq := sq_nonneg b
  exact ⟨pos_of_mul_pos (a := 4 * a) (by omega) (by omega), ha⟩
theorem hi_bounds {b c d : Int} (hc : c ≠ 0) : hiF c d - 2 * ab c < stB b c d ∧ stB b c d ≤ hiF c d := by
  have h1 : 1 ≤ ab c := by unfold ab; omega
  have m0 := Int.emod_nonneg (hiF c d + b) (by omega : 2 * ab c ≠ 0)
  have m1 := Int.emod_lt_of_pos (hiF c d + b) (by omega : 0 < 2 * ab c)
  unfold stB
  omega
/-- A step that is taken, and leads to a plain form, leads nearer to a reduced one. -/
theorem mu_lt {f : Fm} (hv : vF f.a f.b f.c = true) (hr : redF f.a f.b f.c = false)
    (hg : vF (stepF f.a f.b f.c).a (stepF f.a f.b f.c).b (stepF f.a f.b f.c).c = true) : muF (stepF f.a f.b f.c) < muF f := by
  obtain ⟨a, b, c⟩ := f
  simp only at *
  obtain ⟨a1, b1, c1⟩ := vF_in hv
  have h0 := vF_c hv
  have hd := step_disc a1 b1 c1 h0
  obtain ⟨-, f2, -⟩ := step_facts a1 b1 c1 h0
  have hh := hi_bounds (b := b) (d := dF a b c) h0
  cases hrg : redF (stepF a b c).a (stepF a b c).b (stepF a b c).c
  · have e1 : muF ⟨a, b, c⟩ = 2 + c.natAbs := by unfold muF; simp [hr, hrg]
    rw [e1]
    unfold muF
    rw [if_neg (by rw [hrg]; simp)]
    split
    · omega
    · rename_i hrh
      have key : ab (stepF a b c).c < ab c := by
        obtain ⟨a2, b2, c2⟩ := vF_in hg
        have h02 := vF_c hg
        obtain ⟨-, g2, -⟩ := step_facts a2 b2 c2 h02
        obtain ⟨hne, -⟩ := vF_d hv
        rcases Int.lt_or_le (dF a b c) 0 with hn | hp
        · obtain ⟨cp, ap⟩ := vF_cpos hv hn
          obtain ⟨cp2, ap2⟩ := vF_cpos hg (by omega)
          have hd3 := step_disc a2 b2 c2 h02
          rw [hd] at g2 hd3
          have n1 := (not_congr (red_iff_neg (a := (stepF a b c).a) (b := (stepF a b c).b) (c := (stepF a b c).c) (by omega))).1 (by rw [hrg]; simp)
          have n2 := (not_congr (red_iff_neg (a := (stepF (stepF a b c).a (stepF a b c).b (stepF a b c).c).a) (b := (stepF (stepF a b c).a (stepF a b c).b (stepF a b c).c).b) (c := (stepF (stepF a b c).a (stepF a b c).b (stepF a b c).c).c) (by omega))).1 hrh
          have hhi : hiF c (dF a b c) = c := by unfold hiF; rw [if_neg (by omega), ab_pos (by omega)]
          rw [hhi, ab_pos (by omega)] at hh
          have hhi2 : hiF (stepF a b c).c (dF a b c) = (stepF a b c).c := by unfold hiF; rw [if_neg (by omega), ab_pos (by omega)]
          refine falls_neg (c := c) (B := (stepF a b c).b) (C := (stepF a b c).c) hn cp (by have := hh.1; show -c < stB b c (dF a b c); omega) hh.2 f2 (B2 := stB (stepF a b c).b (stepF a b c).c (dF a b c)) (C2 := stC (stepF a b c).a (stepF a b c).b (stepF a b c).c (dF a b c)) ?_ g2 n1 ?_
          · unfold stB
            rw [hhi2, ab_pos (by omega)]
          · have e : stepF (stepF a b c).a (stepF a b c).b (stepF a b c).c = ⟨(stepF a b c).c, stB (stepF a b c).b (stepF a b c).c (dF a b c), stC (stepF a b c).a (stepF a b c).b (stepF a b c).c (dF a b c)⟩ := by
              rw [← hd]
              rfl
            rw [e] at n2
            exact n2
        · have n1 := (not_congr (red_iff_pos (a := (stepF a b c).a) (b := (stepF a b c).b) (c := (stepF a b c).c) (by omega))).1 (by rw [hrg]; simp)
          rw [hd] at n1
          obtain ⟨r0, r1, r2⟩ := rt_spec (n := dF a b c) hp (by have := dF_range a1 b1 c1; omega)
          refine falls_pos (c := c) (B := (stepF a b c).b) (C := (stepF a b c).c) (d := dF a b c) (r := rt (dF a b c)) (by omega) r0 r1 r2 h0 ⟨fun h => ?_, fun h => ?_⟩ f2 n1
          · have : hiF c (dF a b c) = rt (dF a b c) := by unfold hiF; rw [if_pos ⟨by omega, h⟩]
            rw [this] at hh
            exact hh
          · have : hiF c (dF a b c) = ab c := by unfold hiF; rw [if_neg (by omega)]
            rw [this] at hh
            exact ⟨by have := hh.1; show -(ab c) < stB b c (dF a b c); omega, hh.2⟩
      unfold ab at key
      omega
  · have e1 : muF ⟨a, b, c⟩ = 1 := by unfold muF; simp [hr, hrg]
    rw [e1]
    unfold muF
    rw [if_pos hrg]
    omega
theorem mu_le {f : Fm} (h : -10000 ≤ f.c ∧ f.c ≤ 10000) : muF f ≤ 10002 := by
  unfold muF
  split
  · omega
  · split <;> omega
/-- The steps to a reduced form: the form, how many, and whether each form on the way is plain. -/
def rdF : Nat → Fm → Int → Fm × Int × Bool
  | 0, f, n => (f, n, true)
  | k + 1, f, n => if redF f.a f.b f.c = true then (f, n, true) else if stepV f.a f.b f.c = true then rdF k (stepF f.a f.b f.c) (n + 1) else (stepF f.a f.b f.c, n + 1, false)
theorem rdF_done {k : Nat} {f : Fm} {n : Int} (h : redF f.a f.b f.c = true) : rdF (k + 1) f n = (f, n, true) := by unfold rdF; rw [if_pos h]
theorem rdF_step {k : Nat} {f : Fm} {n : Int} (h : redF f.a f.b f.c = false) (h2 : stepV f.a f.b f.c = true) : rdF (k + 1) f n = rdF k (stepF f.a f.b f.c) (n + 1) := by
  conv => lhs; unfold rdF
  rw [if_neg (by rw [h]; simp), if_pos h2]
theorem rdF_bad {k : Nat} {f : Fm} {n : Int} (h : redF f.a f.b f.c = false) (h2 : stepV f.a f.b f.c = false) : rdF (k + 1) f n = (stepF f.a f.b f.c, n + 1, false) := by
  unfold rdF
  rw [if_neg (by rw [h]; simp), if_neg (by rw [h2]; simp)]
end Go.Proofs.YtodbmnbahldabaaDoor
