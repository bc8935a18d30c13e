/- The convergents of a root: plain numbers. -/
import Derived.Test.YtdbbjmcfpfalhaaDoorSurdF
namespace Go.Proofs.YtdbbjmcfpfalhaaDoor
open Go.ChangeShapes Go.WideShapes Go.ChangeAt Go.RowKit
set_option linter.unusedVariables false
/-- Two numbers of a convergent, and of the one before. -/
structure Cv where
  x : Int
  y : Int
  u : Int
  v : Int
def cv (D r : Nat) : Nat → Cv
  | 0 => ⟨1, 0, 0, 1⟩
  | k + 1 => ⟨sA D r k * (cv D r k).x + (cv D r k).u, sA D r k * (cv D r k).y + (cv D r k).v, (cv D r k).x, (cv D r k).y⟩
theorem sA_zero (D r : Nat) : sA D r 0 = r := by simp [sA, sS, itS]
theorem cv_one (D r : Nat) : cv D r 1 = ⟨r, 1, 1, 0⟩ := by simp [cv, sA_zero]
theorem cv_nn {D r : Nat} : ∀ k, 0 ≤ (cv D r k).x ∧ 0 ≤ (cv D r k).y ∧ 0 ≤ (cv D r k).u ∧ 0 ≤ (cv D r k).v
  | 0 => by simp [cv]
  | k + 1 => by
    obtain ⟨h1, h2, h3, h4⟩ := cv_nn (D := D) (r := r) k
    have a := Int.mul_nonneg (by omega : (0 : Int) ≤ sA D r k) h1
    have b := Int.mul_nonneg (by omega : (0 : Int) ≤ sA D r k) h2
    exact ⟨by show 0 ≤ _ * _ + _; omega, by show 0 ≤ _ * _ + _; omega, h1, h2⟩
theorem cv_up {d : Int} {D r n : Nat} (H : PerI d D r n) {k : Nat} (hk : k ≤ n) : (cv D r k).x ≤ (cv D r (k + 1)).x ∧ (cv D r k).y ≤ (cv D r (k + 1)).y := by
  obtain ⟨h1, h2, h3, h4⟩ := cv_nn (D := D) (r := r) k
  have ha := (H.a hk).1
  have a := Int.mul_le_mul_of_nonneg_right (by omega : (1 : Int) ≤ sA D r k) h1
  have b := Int.mul_le_mul_of_nonneg_right (by omega : (1 : Int) ≤ sA D r k) h2
  exact ⟨by show _ ≤ _ * _ + _; omega, by show _ ≤ _ * _ + _; omega⟩
theorem cv_mono {d : Int} {D r n : Nat} (H : PerI d D r n) {k : Nat} : ∀ j, k ≤ j → j ≤ n → (cv D r k).x ≤ (cv D r j).x ∧ (cv D r k).y ≤ (cv D r j).y := by
  intro j
  induction j with
  | zero =>
    intro h1 h2
    have : k = 0 := by omega
    subst this
    exact ⟨Int.le_refl _, Int.le_refl _⟩
  | succ j ih =>
    intro h1 h2
    by_cases e : k = j + 1
    · subst e; exact ⟨Int.le_refl _, Int.le_refl _⟩
    · have a := ih (by omega) (by omega)
      have b := cv_up H (k := j) (by omega)
      omega
theorem pOk_iff {d x y : Int} : pOk d x y = true ↔ (-1000000000 ≤ x ∧ x ≤ 1000000000) ∧ (-1000000000 ≤ y ∧ y ≤ 1000000000) ∧ y * y ≤ 1000000000000000000 / d := by
  simp only [pOk, Bool.and_eq_true, inR_iff, decide_eq_true_eq]
theorem pOk_down {d x y x' y' : Int} (h1 : 0 ≤ x ∧ x ≤ x') (h2 : 0 ≤ y ∧ y ≤ y') (h : pOk d x' y' = true) : pOk d x y = true := by
  obtain ⟨a, b, c⟩ := pOk_iff.1 h
  have := Int.mul_le_mul h2.2 h2.2 h2.1 (by omega)
  exact pOk_iff.2 ⟨by omega, by omega, by omega⟩
theorem cv_plain {d : Int} {D r n : Nat} (H : PerI d D r n) {k j : Nat} (h1 : k ≤ j) (h2 : j ≤ n) (h : pOk d (cv D r j).x (cv D r j).y = true) : pOk d (cv D r k).x (cv D r k).y = true := by
  have a := cv_nn (D := D) (r := r) k
  have b := cv_mono H j h1 h2
  exact pOk_down ⟨a.1, b.1⟩ ⟨a.2.1, b.2⟩ h
theorem cv_first {d : Int} {D r n : Nat} (H : PerI d D r n) : pOk d (cv D r 1).x (cv D r 1).y = true := by
  rw [cv_one]
  have hr := H.per.r2
  have h1 := H.d1
  have h2 := H.d2
  have h3 := H.eD
  have : (1 : Int) * 1 ≤ 1000000000000000000 / d := by rw [Int.le_ediv_iff_mul_le (by omega)]; omega
  exact pOk_iff.2 ⟨by simp; omega, by simp, this⟩
theorem cv_bounds {d : Int} {D r n : Nat} (H : PerI d D r n) {k : Nat} (hk : k + 1 ≤ n) (h : pOk d (cv D r (k + 1)).x (cv D r (k + 1)).y = true) :
    (0 ≤ (cv D r (k + 1)).x ∧ (cv D r (k + 1)).x ≤ 1000000000) ∧ (0 ≤ (cv D r (k + 1)).y ∧ (cv D r (k + 1)).y ≤ 1000000000) ∧ (0 ≤ (cv D r (k + 1)).u ∧ (cv D r (k + 1)).u ≤ 1000000000) ∧ (0 ≤ (cv D r (k + 1)).v ∧ (cv D r (k + 1)).v ≤ 1000000000) ∧
    (0 ≤ sA D r (k + 1) * (cv D r (k + 1)).x ∧ sA D r (k + 1) * (cv D r (k + 1)).x ≤ 198000000000) ∧ (0 ≤ sA D r (k + 1) * (cv D r (k + 1)).y ∧ sA D r (k + 1) * (cv D r (k + 1)).y ≤ 198000000000) := by
  obtain ⟨a1, a2, a3, a4⟩ := cv_nn (D := D) (r := r) (k + 1)
  obtain ⟨b1, b2, -⟩ := pOk_iff.1 h
  have c := cv_up H (k := k) (by omega)
  have e1 : (cv D r (k + 1)).u = (cv D r k).x := rfl
  have e2 : (cv D r (k + 1)).v = (cv D r k).y := rfl
  have ha := H.a hk
  have m1 := Int.mul_le_mul (by omega : (sA D r (k + 1) : Int) ≤ 198) b1.2 a1 (by omega)
  have m2 := Int.mul_le_mul (by omega : (sA D r (k + 1) : Int) ≤ 198) b2.2 a2 (by omega)
  have m3 := Int.mul_nonneg (by omega : (0 : Int) ≤ sA D r (k + 1)) a1
  have m4 := Int.mul_nonneg (by omega : (0 : Int) ≤ sA D r (k + 1)) a2
  exact ⟨⟨a1, b1.2⟩, ⟨a2, b2.2⟩, ⟨a3, by omega⟩, ⟨a4, by omega⟩, ⟨m3, by omega⟩, ⟨m4, by omega⟩⟩
/-- The surd before and the norms of convergents: with s = 1 or -1 by turns. -/
theorem cv_norm {d : Int} {D r n : Nat} (H : PerI d D r n) : ∀ k, k ≤ n → ∃ s q : Int, s = (if k % 2 = 0 then 1 else -1) ∧
    d = ((sS D r k).1 : Int) * (sS D r k).1 + (sS D r k).2 * q ∧
    (cv D r k).x * (cv D r k).x - d * ((cv D r k).y * (cv D r k).y) = s * (sS D r k).2 ∧
    (cv D r k).x * (cv D r k).u - d * ((cv D r k).y * (cv D r k).v) = -(s * (sS D r k).1) ∧
    (cv D r k).u * (cv D r k).u - d * ((cv D r k).v * (cv D r k).v) = -(s * q) := by
  intro k
  induction k with
  | zero => intro _; exact ⟨1, d, by simp, by simp [sS, itS], by simp [cv, sS, itS], by simp [cv, sS, itS], by simp [cv]⟩
  | succ k ih =>
    intro hk
    obtain ⟨s, q, hs, hd, h1, h2, h3⟩ := ih (by omega)
    have X := H.nx (k := k) (by omega)
    have hap := X.ap
    have hqp := X.q0
    have hdv := X.dv
    have hlo : ((sS D r (k + 1)).1 : Int) * (sS D r (k + 1)).1 ≤ d := by
      have h0 := H.per.lo
      have h5 := (okS_iff (H.per.ok (k + 1) (by omega) hk)).2.1
      have h6 := Nat.mul_le_mul h5 h5
      have h7 := H.eD
      have h8 : (((sS D r (k + 1)).1 * (sS D r (k + 1)).1 : Nat) : Int) ≤ D := by omega
      rw [Int.natCast_mul] at h8
      omega
    have e : (cv D r (k + 1)) = ⟨sA D r k * (cv D r k).x + (cv D r k).u, sA D r k * (cv D r k).y + (cv D r k).v, (cv D r k).x, (cv D r k).y⟩ := rfl
    have ea : (((sS D r k).1 + r) / (sS D r k).2 : Nat) = sA D r k := rfl
    rw [ea] at hap
    rw [e]
    simp only
    generalize (sA D r k : Int) = a at *
    generalize (cv D r k).x = x at *
    generalize (cv D r k).y = y at *
    generalize (cv D r k).u = u at *
    generalize (cv D r k).v = v at *
    generalize ((sS D r k).1 : Int) = P at *
    generalize ((sS D r k).2 : Int) = Q at *
    generalize ((sS D r (k + 1)).1 : Int) = P' at *
    generalize ((sS D r (k + 1)).2 : Int) = Q' at *
    -- the exact quotient
    have hex : d - P' * P' = Q * (q - a * a * Q + 2 * a * P) := by rw [← hap]; grind
    have hQ' : Q' = q - a * a * Q + 2 * a * P := by
      rw [← hdv, hex, Int.mul_tdiv_cancel_left _ (by omega)]
    refine ⟨-s, Q, ?_, ?_, ?_, ?_, ?_⟩
    · rw [hs]
      rcases Nat.mod_two_eq_zero_or_one k with h | h
      · rw [if_pos h, if_neg (by omega)]
      · rw [if_neg (by omega), if_pos (by omega)]; rfl
    · rw [hQ', Int.mul_comm _ Q, ← hex]; omega
    · rw [hQ']; grind
    · rw [← hap]; grind
    · grind
theorem nrm_sign {d : Int} {D r n : Nat} (H : PerI d D r n) : (nrm d (cv D r n).x (cv D r n).y < 0) ↔ n % 2 = 1 := by
  obtain ⟨s, q, hs, hd, h1, -, -⟩ := cv_norm H n (Nat.le_refl _)
  have hq := (okS_iff (H.per.ok n H.per.n1 (Nat.le_refl _))).2.2.1
  have e : nrm d (cv D r n).x (cv D r n).y = s * (sS D r n).2 := by rw [← h1]; unfold nrm; rw [Int.mul_assoc]
  rw [e, hs]
  rcases Nat.mod_two_eq_zero_or_one n with h | h
  · rw [if_pos h]; omega
  · rw [if_neg (by omega)]; omega
end Go.Proofs.YtdbbjmcfpfalhaaDoor
