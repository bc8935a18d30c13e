/- What is asked of the next form, of the reduced form and of its cycle holds of small forms: plain. -/
import Derived.Test.YtolbihoeheogkaaOrbC
import Derived.Test.YtolbihoeheogkaaFDr
namespace Go.Proofs.Ytolbihoeheogkaa
open Go.ChangeShapes Go.WideShapes Go.ChangeAt Go.RowKit
set_option linter.unusedVariables false
set_option maxHeartbeats 1000000
theorem sq_le44 {x : Int} (h : x * x ≤ 1936) : -44 ≤ x ∧ x ≤ 44 := by
  rw [← ab_sq] at h
  have h0 := ab_nonneg x
  have h1 : ab x ≤ 44 := by
    rcases Int.lt_or_le 44 (ab x) with h2 | h2
    · have := Int.mul_le_mul (show 45 ≤ ab x by omega) (show 45 ≤ ab x by omega) (by omega) h0
      omega
    · exact h2
  unfold ab at h1
  omega
theorem smf_sm {a b c : Int} (h : SmF a b c) : Sm (dF a b c) ⟨a, b, c⟩ := by
  obtain ⟨h1, h2, h3, h4⟩ := h
  refine ⟨h4, by show -1000 ≤ a ∧ a ≤ 1000; omega, by show -1000 ≤ b ∧ b ≤ 1000; omega, by show -1000 ≤ c ∧ c ≤ 1000; omega, rfl, ?_⟩
  have m1 := mul_f h2 h2
  have m2 := mul_f (a := 4 * a) (b := c) (A := 80) (B := 20) (by omega) h3
  have m3 := sq_nonneg b
  unfold dF
  omega
theorem st_small {a b c : Int} (h : SmF a b c) : (-44 ≤ (stepF a b c).b ∧ (stepF a b c).b ≤ 44) ∧ (-32 ≤ stN b c (dF a b c) ∧ stN b c (dF a b c) ≤ 32) := by
  have hs := smf_sm h
  have hb := (sm_b hs).1
  have e := (stp_sum hs).1
  have hc := vF_c h.2.2.2
  obtain ⟨h1, h2, h3, h4⟩ := h
  have e1 : (stp ⟨a, b, c⟩).b = (stepF a b c).b := rfl
  rw [e1] at hb e
  have hc20 : 1 ≤ ab c ∧ ab c ≤ 20 := by unfold ab; omega
  have hb44 : -44 ≤ (stepF a b c).b ∧ (stepF a b c).b ≤ 44 := by
    rcases hb with ⟨h5, _⟩ | h5
    · exact sq_le44 h5
    · have : ab c * ab c ≤ 20 * 20 := Int.mul_le_mul hc20.2 hc20.2 (by omega) (by omega)
      have h6 : ab (⟨a, b, c⟩ : Fm).c * ab (⟨a, b, c⟩ : Fm).c = ab c * ab c := rfl
      rw [h6] at h5
      exact sq_le44 (by omega)
  refine ⟨hb44, ?_⟩
  have e2 : (stepF a b c).b + b = 2 * c * stN b c (dF a b c) := e
  generalize stN b c (dF a b c) = n at *
  have e3 : ab ((stepF a b c).b + b) = 2 * (ab c * ab n) := by
    rw [e2, ab_mul, ab_mul, Int.mul_assoc]
    rfl
  have e4 := Int.mul_le_mul_of_nonneg_right hc20.1 (ab_nonneg n)
  have e5 : ab ((stepF a b c).b + b) ≤ 64 := by unfold ab; omega
  have e6 : ab n ≤ 32 := by omega
  unfold ab at e6
  omega
/-- All that the law asks, of a small form. -/
theorem fo_all {a b c : Int} (h : SmF a b c) : ∃ (g2 g3 n : Int) (r : Fm) (m : Nat) (M : List Fm),
    stR a b c = (⟨c, g2, g3⟩, 0) ∧ vF c g2 g3 = true ∧ dF c g2 g3 = dF a b c ∧ (g2 + b).tmod (2 * c) = 0 ∧ (g2 + b).tdiv (2 * c) = n ∧ (-44 ≤ g2 ∧ g2 ≤ 44) ∧ (-32 ≤ n ∧ n ≤ 32) ∧ c ≠ 0 ∧
    (∀ x y, vA c g2 g3 x y = vA a b c (-y) (x + n * y)) ∧
    reR a b c = (r, (m : Int), 0) ∧ vF r.a r.b r.c = true ∧ redF r.a r.b r.c = true ∧ redF a b c = decide (m = 0) ∧ (m = 0 → r = ⟨a, b, c⟩) ∧ m ≤ 10003 ∧
    eqvR a b c r.a r.b r.c = (true, 0) ∧ eqvR c g2 g3 a b c = (true, 0) ∧
    fcR a b c = (M, 0) ∧ M.length ≤ 968 ∧ (∃ h0 : 0 < M.length, M[0] = r) ∧ (∀ i, (hi : i < M.length) → vF M[i].a M[i].b M[i].c = true ∧ redF M[i].a M[i].b M[i].c = true) ∧
    (0 < dF a b c → ∀ i, (hi : i < M.length) → stR M[i].a M[i].b M[i].c = (M.getD ((i + 1) % M.length) zF, 0)) := by
  have hs := smf_sm h
  have hg := sm_step hs
  obtain ⟨b44, n32⟩ := st_small h
  obtain ⟨s1, s2⟩ := stp_sum hs
  have hc := vF_c h.2.2.2
  have e : stp ⟨a, b, c⟩ = ⟨c, (stepF a b c).b, (stepF a b c).c⟩ := rfl
  obtain ⟨r, m, r1, r2, r3, r4, r5, r6, r7⟩ := sm_rd hs
  obtain ⟨s, k, M', q1, q2, q3, q4, q5⟩ := next_rd hs r1 r4 r5 r7 r2 r3
  obtain ⟨M, c1, c2, c3, c4, c5⟩ := cyc_law r2 r3
  have hMM : M' = M := by rw [q3] at c1; exact Option.some.inj c1
  subst hMM
  have hv := h.2.2.2
  have hgv : vF c (stepF a b c).b (stepF a b c).c = true := hg.v
  have s1' : (stepF a b c).b + b = 2 * c * stN b c (dF a b c) := s1
  have r1' : rdR a b c = (r, (m : Int), true) := r1
  refine ⟨(stepF a b c).b, (stepF a b c).c, stN b c (dF a b c), r, m, M', ?_, hgv, hg.d0, ?_, ?_, b44, n32, hc, ?_, ?_, r2.v, r3, ?_, r5, r6, ?_, ?_, ?_, c2, c3, c4, ?_⟩
  · unfold stR
    rw [if_pos hv, if_pos (show stepV a b c = true from hg.v)]
    rfl
  · rw [s1']; exact Int.mul_tmod_right _ _
  · rw [s1']; exact Int.mul_tdiv_cancel_left _ (by omega)
  · intro x y
    exact va_step s1 s2
  · unfold reR
    rw [if_pos hv, r1', if_pos rfl]
  · have r4' : m = 0 ↔ redF a b c = true := r4
    cases hq : redF a b c
    · rw [hq] at r4'
      simp at r4'
      simp [r4']
    · rw [hq] at r4'
      simp at r4'
      simp [r4']
  · exact eqv_yes hv r2.v r1' (rdR_done r3) ⟨_, c1⟩ c1 q5
  · exact eqv_yes hgv hv q1 r1' q2 c1 q4
  · unfold fcR
    rw [if_pos hv, r1', if_pos rfl]
    show olF (cyR r) = _
    rw [c1]
    rfl
  · intro hd i hi
    obtain ⟨t1, t2⟩ := c5 hd i hi
    have hvi : vF M'[i].a M'[i].b M'[i].c = true := t1.v
    have hsi : stepV M'[i].a M'[i].b M'[i].c = true := (sm_step t1).v
    unfold stR
    rw [if_pos hvi, if_pos hsi, ← t2]
    rfl
end Go.Proofs.Ytolbihoeheogkaa
