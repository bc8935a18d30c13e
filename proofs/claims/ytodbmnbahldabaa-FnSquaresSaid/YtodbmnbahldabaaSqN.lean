/- Plain numbers, no program: sums of two squares: what the kernel reckons for small numbers. -/
import Derived.Test.YtodbmnbahldabaaSqM
import Derived.Test.YtodbmnbahldabaaSqC
namespace Go.Proofs.Ytodbmnbahldabaa
open Go.ChangeShapes Go.WideShapes Go.ChangeAt Go.RowKit
set_option linter.unusedVariables false
set_option maxHeartbeats 1000000
theorem mr_of_all {lo n : Nat} (h : mrAll lo n = true) : ∀ j, lo < j → j ≤ lo + n → mrN j (j - 1) 1 = true := by
  induction n with
  | zero => intro j h1 h2; omega
  | succ n ih =>
    have h' : mrN (lo + n + 1) (lo + n) 1 = true ∧ mrAll lo n = true := by
      have : mrAll lo (n + 1) = (mrN (lo + n + 1) (lo + n) 1 && mrAll lo n) := rfl
      rw [this] at h
      simpa using h
    intro j h1 h2
    by_cases e : j = lo + n + 1
    · rw [e]; exact h'.1
    · exact ih h'.2 j h1 (by omega)
theorem euN_ok (k : Nat) : ∀ (f a b : Nat), euN k f a b = true → (sfF (k : Int) f (a : Int) (b : Int)).1 * (sfF (k : Int) f (a : Int) (b : Int)).1 + (sfF (k : Int) f (a : Int) (b : Int)).2 * (sfF (k : Int) f (a : Int) (b : Int)).2 = k := by
  intro f
  induction f with
  | zero =>
    intro a b h
    have h1 : a * a + b * b = k := beqE h
    show (a : Int) * a + (b : Int) * b = k
    exact_mod_cast h1
  | succ f ih =>
    intro a b h
    have e : euN k (f + 1) a b = cond (Nat.ble (k + 1) (a * a)) (euN k f b (a % b)) (Nat.beq (a * a + b * b) k) := rfl
    rw [e] at h
    by_cases h1 : k + 1 ≤ a * a
    · rw [bleT h1, cond_true] at h
      have h2 : (k : Int) < (a : Int) * (a : Int) := by
        have : ((k + 1 : Nat) : Int) ≤ ((a * a : Nat) : Int) := by exact_mod_cast h1
        rw [Int.natCast_mul] at this; omega
      have e2 : sfF (k : Int) (f + 1) (a : Int) (b : Int) = sfF (k : Int) f (b : Int) ((a % b : Nat) : Int) := by
        conv => lhs; unfold sfF
        rw [if_pos h2, Int.natCast_emod]
      rw [e2]
      exact ih _ _ h
    · rw [ble_false h1, cond_false] at h
      have h3 : a * a + b * b = k := beqE h
      have h2 : ¬ (k : Int) < (a : Int) * (a : Int) := by
        have : ((a * a : Nat) : Int) < ((k + 1 : Nat) : Int) := by exact_mod_cast Nat.lt_of_not_le h1
        rw [Int.natCast_mul] at this; omega
      rw [sfF_out _ _ _ _ h2]
      show (a : Int) * a + (b : Int) * b = k
      exact_mod_cast h3
theorem mrN_ok (k : Nat) : ∀ (f x : Nat), mrN k f x = true → 1 ≤ x → (mrF (k : Int) f (x : Int)).2 = 0 → ∃ r : Nat, (mrF (k : Int) f (x : Int)).1 = r ∧ 1 ≤ r ∧ r < k ∧ euN k k k r = true ∧ euN k k k (k - r) = true := by
  intro f
  induction f with
  | zero => intro x _ _ h; exact absurd h (by decide : ¬ (3 : Int) = 0)
  | succ f ih =>
    intro x h hx h0
    have e : mrN k (f + 1) x = cond (Nat.ble k x) true (cond (Nat.beq ((x * x + 1) % k) 0) (euN k k k x && euN k k k (k - x)) (mrN k f (x + 1))) := rfl
    rw [e] at h
    by_cases h1 : (x : Int) < (k : Int)
    · have h2 : Nat.ble k x = false := ble_false (by omega)
      rw [h2, cond_false] at h
      by_cases h3 : (x * x + 1) % k = 0
      · have h4 : (((x : Int) * x + 1) % (k : Int) == 0) = true := by
          have : ((x * x + 1) % k : Nat) = (0 : Int) := by rw [h3]; rfl
          rw [Int.natCast_emod, Int.natCast_add, Int.natCast_mul] at this
          simpa using this
        rw [show Nat.beq ((x * x + 1) % k) 0 = true from beqT h3, cond_true] at h
        have e2 : mrF (k : Int) (f + 1) (x : Int) = ((x : Int), 0) := by
          conv => lhs; unfold mrF
          rw [if_pos h1, if_pos h4]
        rw [e2]
        exact ⟨x, rfl, hx, by omega, by simpa using h⟩
      · have h4 : (((x : Int) * x + 1) % (k : Int) == 0) = false := by
          cases h5 : (((x : Int) * x + 1) % (k : Int) == 0)
          · rfl
          · have h6 : ((x : Int) * x + 1) % (k : Int) = 0 := by simpa using h5
            have h7 : (((x * x + 1) % k : Nat) : Int) = 0 := by rw [Int.natCast_emod, Int.natCast_add, Int.natCast_mul]; exact h6
            exact absurd (Int.ofNat.inj h7) h3
        rw [show Nat.beq ((x * x + 1) % k) 0 = false from beqF h3, cond_false] at h
        have e2 : mrF (k : Int) (f + 1) (x : Int) = mrF (k : Int) f ((x + 1 : Nat) : Int) := by
          conv => lhs; unfold mrF
          rw [if_pos h1, if_neg (by rw [h4]; simp), Int.natCast_add]
          rfl
        rw [e2] at h0 ⊢
        exact ih (x + 1) h (by omega) h0
    · have e2 : mrF (k : Int) (f + 1) (x : Int) = (0, 3) := mrF_out _ _ _ h1
      rw [e2] at h0
      exact absurd h0 (by decide : ¬ (3 : Int) = 0)
/-- The numbers that are drawn as sums of squares. -/
def SqSet (n : Int) : Prop := n ∈ [-1, 0, 1, 2, 1000000, 1000001, 999983, 9223372036854775807] ∨ (0 ≤ n ∧ n ≤ 7000)
theorem sproof_two {n : Int} (hs : SqSet n) : (sproof n).2 = 2 ∨ (0 ≤ n ∧ n ≤ 1000000 ∧ (((sproof n).2 = 0 ∧ ¬ Two n) ∨ ((sproof n).2 = 3 ∧ Two n))) := by
  by_cases hn : 1 ≤ n ∧ n ≤ 1000000
  · refine Or.inr ⟨by omega, hn.2, ?_⟩
    obtain ⟨m, rfl⟩ := Int.eq_ofNat_of_zero_le (a := n) (by omega)
    have hm : 1 ≤ m ∧ m ≤ 1000000 := by omega
    have hc : m ≤ 7000 ∨ m = 999983 ∨ m = 1000000 := by
      rcases hs with h | h
      · simp at h
        omega
      · omega
    rcases hc with h | rfl | rfl
    · have : chkN 100 300 84 m = true := by
        by_cases c1 : m ≤ 1800
        · exact chk_of_all chk_a m (by omega) (by omega)
        · by_cases c2 : m ≤ 3600
          · exact chk_of_all chk_b m (by omega) (by omega)
          · by_cases c3 : m ≤ 5400
            · exact chk_of_all chk_c m (by omega) (by omega)
            · exact chk_of_all chk_d m (by omega) (by omega)
      exact chk_two this (by omega) hm (by omega)
    · exact chk_two chk_p (by omega) hm (by omega)
    · exact chk_two chk_m (by omega) hm (by omega)
  · left
    unfold sproof
    rw [if_neg (by rw [inR_iff]; exact hn)]
/-- Squares from a root have their sum. -/
def SumOk (k r : Int) : Prop := (sroot k r).2.2 = 0 → (sroot k r).1 * (sroot k r).1 + (sroot k r).2.1 * (sroot k r).2.1 = k ∧ 0 ≤ k ∧ k ≤ 1000000
theorem sroot_eu {k r : Nat} (hk : k ≤ 1000000) (h : euN k k k r = true) : SumOk (k : Int) (r : Int) := by
  intro h0
  have he := euN_ok k k k r h
  have hu : sroot (k : Int) (r : Int) = ((sfF (k : Int) k (k : Int) (r : Int)).1, (sfF (k : Int) k (k : Int) (r : Int)).2, 0) := by
    unfold sroot at h0 ⊢
    split at h0
    · rename_i h1
      rw [if_pos h1]
      split at h0
      · rename_i h2
        rw [if_pos h2, Int.toNat_natCast]
      · exact absurd h0 (by decide : ¬ (6 : Int) = 0)
    · exact absurd h0 (by decide : ¬ (2 : Int) = 0)
  rw [hu]
  exact ⟨he, by omega, by omega⟩
theorem mroot_small {k : Int} (hk : 2 ≤ k ∧ k ≤ 2100) (h : (mroot k).2 = 0) : SumOk k (mroot k).1 ∧ SumOk k (k - (mroot k).1) ∧ 0 ≤ (mroot k).1 ∧ (mroot k).1 ≤ 2100 := by
  obtain ⟨m, rfl⟩ := Int.eq_ofNat_of_zero_le (a := k) (by omega)
  have hm : 2 ≤ m ∧ m ≤ 2100 := by omega
  have e : mroot (m : Int) = mrF (m : Int) (m - 1) ((1 : Nat) : Int) := by
    unfold mroot
    rw [if_pos (inR_iff.2 (by omega)), show ((m : Int) - 1).toNat = m - 1 by omega]
    rfl
  by_cases h2 : m = 2
  · subst h2
    have e2 : mroot ((2 : Nat) : Int) = (1, 0) := by decide
    rw [e2]
    refine ⟨?_, ?_, by decide, by decide⟩
    · unfold SumOk; intro h; exact absurd h (by decide)
    · unfold SumOk; intro h; exact absurd h (by decide)
  · have hc : mrN m (m - 1) 1 = true := by
      by_cases c1 : m ≤ 902
      · exact mr_of_all mr_a m (by omega) (by omega)
      · by_cases c2 : m ≤ 1402
        · exact mr_of_all mr_b m (by omega) (by omega)
        · by_cases c3 : m ≤ 1802
          · exact mr_of_all mr_c m (by omega) (by omega)
          · exact mr_of_all mr_d m (by omega) (by omega)
    rw [e] at h ⊢
    obtain ⟨r, h1, h2, h3, h4, h5⟩ := mrN_ok m (m - 1) 1 hc (by omega) h
    rw [h1]
    refine ⟨sroot_eu (by omega) h4, ?_, by omega, by omega⟩
    rw [show (m : Int) - (r : Int) = ((m - r : Nat) : Int) by omega]
    exact sroot_eu (by omega) h5
theorem mrF_none {n : Int} : ∀ (f : Nat) (x : Int), (mrF n f x).2 ≠ 0 → n ≤ x + f → ∀ r, x ≤ r → r < n → (((r * r + 1) % n == 0) = false) := by
  intro f
  induction f with
  | zero => intro x h hx r h1 h2; omega
  | succ f ih =>
    intro x h hx r h1 h2
    unfold mrF at h
    rw [if_pos (by omega)] at h
    split at h
    · exact absurd rfl h
    · rename_i h3
      by_cases e : r = x
      · rw [e]; simpa using h3
      · exact ih (x + 1) h (by omega) r (by omega) h2
theorem sum_none {k r : Int} (hk : 2 ≤ k ∧ k ≤ 100000) (h : (mroot k).2 ≠ 0) : SumOk k r := by
  intro h0
  unfold sroot at h0
  split at h0
  · rename_i h1
    have hr := inR_iff.1 h1.2
    have e : mroot k = mrF k (k - 1).toNat 1 := by unfold mroot; rw [if_pos (inR_iff.2 hk)]
    rw [e] at h
    have := mrF_none _ _ h (by omega) r hr.1 (by omega)
    rw [this] at h0
    exact absurd h0 (by decide : ¬ (6 : Int) = 0)
  · exact absurd h0 (by decide : ¬ (2 : Int) = 0)
theorem sum_among {k r : Int} (hk : k ∈ [-1, 1, 1000000, 1000001]) (hr : r ∈ [-1, 0, 1, 1000]) : SumOk k r := by
  have hk' : k = -1 ∨ k = 1 ∨ k = 1000000 ∨ k = 1000001 := by simpa using hk
  have hr' : r = -1 ∨ r = 0 ∨ r = 1 ∨ r = 1000 := by simpa using hr
  intro h0
  exfalso
  revert h0
  unfold sroot inR
  rcases hk' with rfl | rfl | rfl | rfl <;> rcases hr' with rfl | rfl | rfl | rfl <;> simp
theorem mroot_zero {n : Int} (h : (mroot n).2 = 0) : 2 ≤ n ∧ n ≤ 100000 ∧ 0 ≤ (mroot n).1 ∧ (mroot n).1 ≤ 100000 ∧ (((mroot n).1 * (mroot n).1 + 1) % n) = 0 := by
  unfold mroot at h ⊢
  split at h
  · rename_i h1
    have hn := inR_iff.1 h1
    rw [if_pos h1]
    have key : ∀ (f : Nat) (x : Int), 0 ≤ x → (mrF n f x).2 = 0 → 0 ≤ (mrF n f x).1 ∧ (mrF n f x).1 ≤ 100000 ∧ (((mrF n f x).1 * (mrF n f x).1 + 1) % n) = 0 := by
      intro f
      induction f with
      | zero => intro x _ h; exact absurd h (by decide : ¬ (3 : Int) = 0)
      | succ f ih =>
        intro x hx h
        unfold mrF at h ⊢
        split at h
        · rename_i h2
          rw [if_pos h2]
          split at h
          · rename_i h3
            rw [if_pos h3]
            exact ⟨hx, by show x ≤ 100000; omega, by simpa using h3⟩
          · rename_i h3
            rw [if_neg h3]
            exact ih (x + 1) (by omega) h
        · exact absurd h (by decide : ¬ (3 : Int) = 0)
    exact ⟨hn.1, hn.2, key _ _ (by omega) h⟩
  · exact absurd h (by decide : ¬ (2 : Int) = 0)
end Go.Proofs.Ytodbmnbahldabaa
