/- The least solution with 1 has the norm 1. -/
import Derived.Test.YtdbbjmcfpfalhaaDoorLSol
namespace Go.Proofs.YtdbbjmcfpfalhaaDoor
open Go.ChangeShapes Go.WideShapes Go.ChangeAt Go.RowKit
set_option linter.unusedVariables false
set_option maxHeartbeats 1000000
theorem per_q1 {d r n : Nat} (H : Per d r n) : (sS d r n).2 = 1 := by
  have h := H.back
  rw [sS_succ, sS_one] at h
  generalize sS d r n = s at *
  obtain ⟨P, Q⟩ := s
  simp only [nxt, Prod.mk.injEq] at h
  obtain ⟨h1, h2⟩ := h
  rw [h1] at h2
  have := H.lo
  rcases Nat.div_eq_self.1 h2 with h3 | h3
  · omega
  · exact h3
theorem unit_nrm {d : Int} {D r n : Nat} (H : PerI d D r n) : nrm d (cv D r n).x (cv D r n).y = if n % 2 = 0 then 1 else -1 := by
  obtain ⟨s, q, hs, -, h1, -, -⟩ := cv_norm H n (Nat.le_refl _)
  have e : nrm d (cv D r n).x (cv D r n).y = s * (sS D r n).2 := by rw [← h1]; unfold nrm; rw [Int.mul_assoc]
  rw [e, per_q1 H.per, hs]
  split <;> simp
theorem least_nrm {d : Int} {D r n : Nat} (H : PerI d D r n) (h : (lsR d (cv D r n).x (cv D r n).y (odN n)).2.2 = true) :
    nrm d (lsR d (cv D r n).x (cv D r n).y (odN n)).1 (lsR d (cv D r n).x (cv D r n).y (odN n)).2.1 = 1 := by
  have hu := unit_nrm H
  generalize (cv D r n).x = x at *
  generalize (cv D r n).y = y at *
  cases hp : pOk d x y with
  | false =>
    have e : lsR d x y (odN n) = (0, 0, false) := by unfold lsR; rw [hp]; rfl
    rw [e] at h
    cases h
  | true =>
    by_cases ho : n % 2 = 1
    · have e0 : odN n = true := by simp [odN, ho]
      rw [e0] at h ⊢
      rw [if_neg (by omega)] at hu
      cases hm : muB d x y x y with
      | false =>
        have e : lsR d x y true = ((muR d x y x y).1, (muR d x y x y).2, false) := by unfold lsR; rw [hp, hm]; rfl
        rw [e] at h
        cases h
      | true =>
        have e : lsR d x y true = (muX d x y x y, muY x y x y, true) := by unfold lsR muR; rw [hp, hm]; rfl
        rw [e]
        show nrm d (muX d x y x y) (muY x y x y) = 1
        have e : nrm d (muX d x y x y) (muY x y x y) = nrm d x y * nrm d x y := by unfold nrm muX muY; grind
        rw [e, hu]; rfl
    · have e0 : odN n = false := by simp [odN, ho]
      rw [e0]
      rw [if_pos (by omega)] at hu
      have e : lsR d x y false = (x, y, true) := by unfold lsR; rw [hp]; rfl
      rw [e]
      exact hu
theorem least_both1 (d : Int) (h1 : 2 ≤ d) (h2 : d ≤ 10000) (hs : sqB d = false) : ∃ (X Y : Int) (ok : Bool), LsOk d X Y ok ∧ (ok = true → nrm d X Y = 1) ∧
    (∀ w : World, Calls Tryd.prog 36 #[.int .i64 d] w (RetLs X Y ok w)) ∧ (∀ w : World, Calls Tryd.prog 49 #[.int .i64 d] w (RetLs X Y ok w)) := by
  obtain ⟨D, r, n, H⟩ := perI_of h1 h2 hs
  exact ⟨_, _, _, lsOk_of H, least_nrm H, fun w => (leastPell_any d D r n H w).mono fun e w' h => ⟨_, _, h.1, fun _ => ⟨rfl, rfl⟩, h.2⟩, fun w => l09Least_any d D r n H w⟩
end Go.Proofs.YtdbbjmcfpfalhaaDoor
