/- Sums of two squares: the two numbers, and how many pairs there are: both packages, and the laws. -/
import Derived.Test.YtodbmnbahldabaaAggs
import Derived.Test.YtodbmnbahldabaaGcd
import Derived.Test.YtodbmnbahldabaaRoot
import Derived.Test.YtodbmnbahldabaaMem
namespace Go.Proofs.Ytodbmnbahldabaa
open Go.ChangeShapes Go.WideShapes Go.ChangeAt Go.RowKit
set_option linter.unusedVariables false
set_option maxHeartbeats 1000000
theorem sqB_iff {z : Int} (h : 0 ≤ z) : sqB z = (rt z * rt z == z) := by unfold sqB; rw [decide_eq_true h]; rfl
/-- From a number below k on, downwards: the first two squares. -/
def twG (n : Int) : Nat → Int × Int × Int
  | 0 => (0, 0, 3)
  | k + 1 => if n ≤ 2 * (k : Int) * k then (if sqB (n - (k : Int) * k) = true then ((k : Int), rt (n - (k : Int) * k), 0) else twG n k) else (0, 0, 3)
theorem tw_low {n : Int} {k : Nat} (h : ¬ n ≤ 2 * (k : Int) * k) : twG n (k + 1) = (0, 0, 3) := by unfold twG; rw [if_neg h]
theorem tw_hit {n : Int} {k : Nat} (h : n ≤ 2 * (k : Int) * k) (hs : sqB (n - (k : Int) * k) = true) : twG n (k + 1) = ((k : Int), rt (n - (k : Int) * k), 0) := by unfold twG; rw [if_pos h, if_pos hs]
theorem tw_miss {n : Int} {k : Nat} (h : n ≤ 2 * (k : Int) * k) (hs : sqB (n - (k : Int) * k) = false) : twG n (k + 1) = twG n k := by
  conv => lhs; unfold twG
  rw [if_pos h, hs, if_neg (by simp)]
def twR (n : Int) : Int × Int × Int := if inR n 0 1000000 = true then twG n (rt n + 1).toNat else (0, 0, 2)
theorem rt_mil {n : Int} (h : 0 ≤ n ∧ n ≤ 1000000) : 0 ≤ rt n ∧ rt n ≤ 1000 ∧ rt n * rt n ≤ n := by
  have := rt_spec (n := n) h.1 (by omega)
  exact ⟨this.1, rt_le h.1 (by omega) (by omega) (by omega), this.2.1⟩
theorem sq_to {a r n : Int} (h0 : 0 ≤ a) (h1 : a ≤ r) (h2 : r * r ≤ n) : 0 ≤ a * a ∧ a * a ≤ n := by
  have := sq_le_sq h0 h1
  exact ⟨Int.mul_nonneg h0 h0, by omega⟩
theorem two_aa (a : Int) : 2 * a * a = 2 * (a * a) := Int.mul_assoc ..
theorem iTwoSquares_any (n : Int) (w : World) :
    Calls Try.prog 11 #[.int .i64 n] w fun e w' => e = .returned (.tuple #[.int .i64 (twR n).1, .int .i64 (twR n).2.1, .int .i64 (twR n).2.2]) ∧ w = w' := by
  cases hr : inR n 0 1000000
  · have HF : Hid (twR n = (0, 0, 2)) := Lib.hid (by simp [twR, hr])
    go_enter Try.func11, Try.ntmps11
    go_wp2_with (go_at_call 41; refine (within_any _ _ _ _).mono ?_; rintro e w1 ⟨rfl, rfl⟩)
    go_ret3
    exact ⟨by rw [HF.out]; rfl, rfl⟩
  · have hn := inR_iff.1 hr
    obtain ⟨r0, r1, r2⟩ := rt_mil hn
    have HR : Hid (twG n (rt n + 1).toNat = twR n) := Lib.hid (by simp [twR, hr])
    generalize twR n = R at *
    go_enter Try.func11, Try.ntmps11
    go_wp2_with (first | (go_at_call 41; refine (within_any _ _ _ _).mono ?_; rintro e w1 ⟨rfl, rfl⟩) | (go_at_call 42; refine (root_any _ _ (by omega) (by omega)).mono ?_; rintro e w1 ⟨rfl, rfl⟩))
    clear hr
    go_loopg [5] (rt n + 1).toNat (fun k u wr => ∃ a : Nat, u = .int .i64 a ∧ a + 1 = k ∧ (a : Int) ≤ rt n ∧ Hid (twG n (a + 1) = R) ∧ w = wr)
    case atStart => exact ⟨(rt n).toNat, by rw [Int.toNat_of_nonneg r0], by omega, by omega, Lib.hid (by rw [show (rt n).toNat + 1 = (rt n + 1).toNat by omega]; exact HR.out), rfl⟩
    case round =>
      obtain ⟨a, rfl, rfl, har, HT, rfl⟩ := hrel
      obtain ⟨q0, q1⟩ := sq_to (a := (a : Int)) (by omega) har r2
      have q2 := two_aa (a : Int)
      have Q2 := Lib.hid q2
      have b2 : 0 ≤ 2 * (a : Int) * a ∧ 2 * (a : Int) * a ≤ 2000000 := by omega
      clear q2
      by_cases hlow : n ≤ 2 * (a : Int) * a
      · cases hs : sqB (n - (a : Int) * a)
        · have HN : Hid (twG n a = R) := Lib.hid ((tw_miss hlow hs).symm.trans HT.out)
          by_cases ha : a = 0
          · have HZ : Hid (R = (0, 0, 3)) := Lib.hid (by have h := HN.out; rw [ha] at h; exact h.symm)
            have hab : ((a : Int) == 0) = true := by simp [ha]
            clear ha
            go_wp2_with (first | (go_at_call 43; refine (isSquare_any _ _ (by omega)).mono ?_; rintro e w1 ⟨rfl, rfl⟩))
            go_ret3
            exact ⟨by rw [HZ.out]; rfl, rfl⟩
          · have hab : ((a : Int) == 0) = false := by simp [ha]
            have ha1 : 1 ≤ a := by omega
            clear ha
            go_wp2_with (first | (go_at_call 43; refine (isSquare_any _ _ (by omega)).mono ?_; rintro e w1 ⟨rfl, rfl⟩))
            go_roundg a
            case measure => omega
            case rel => exact ⟨a - 1, by rw [show (((a - 1 : Nat) : Int)) = (a : Int) - 1 by omega], by omega, by omega, Lib.hid (by rw [show a - 1 + 1 = a by omega]; exact HN.out), rfl⟩
        · have HN : Hid (R = ((a : Int), rt (n - (a : Int) * a), 0)) := Lib.hid (HT.out.symm.trans (tw_hit hlow hs))
          go_wp2_with (first | (go_at_call 43; refine (isSquare_any _ _ (by omega)).mono ?_; rintro e w1 ⟨rfl, rfl⟩) | (go_at_call 42; refine (root_any _ _ (by omega) (by omega)).mono ?_; rintro e w1 ⟨rfl, rfl⟩))
          go_ret3
          exact ⟨by rw [HN.out]; rfl, rfl⟩
      · have HN : Hid (R = (0, 0, 3)) := Lib.hid (HT.out.symm.trans (tw_low hlow))
        go_wp2_with fail
        go_ret3
        exact ⟨by rw [HN.out]; rfl, rfl⟩
theorem l12Sum_any (n : Int) (w : World) :
    Calls Try.prog 39 #[.int .i64 n] w fun e w' => e = .returned (.bool (inR n 0 1000000)) ∧ w = w' := by
  go_enter Try.func39, Try.ntmps39
  go_wp2_with (go_at_call 46; refine (in_any _ _ _ _).mono ?_; rintro e w1 ⟨rfl, rfl⟩)
  go_ret
  exact ⟨rfl, rfl⟩
theorem sTwoSquares_any (n : Int) (w : World) :
    Calls Try.prog 10 #[.int .i64 n] w fun e w' => e = .returned (.tuple #[.int .i64 (twR n).1, .int .i64 (twR n).2.1, .int .i64 (twR n).2.2]) ∧ w = w' := by
  cases hr : inR n 0 1000000
  · have HF : Hid (twR n = (0, 0, 2)) := Lib.hid (by simp [twR, hr])
    go_enter Try.func10, Try.ntmps10
    go_wp2_with (go_at_call 39; refine (l12Sum_any _ _).mono ?_; rintro e w1 ⟨rfl, rfl⟩)
    go_ret3
    exact ⟨by rw [HF.out]; rfl, rfl⟩
  · have hn := inR_iff.1 hr
    obtain ⟨r0, r1, r2⟩ := rt_mil hn
    have HR : Hid (twG n (rt n + 1).toNat = twR n) := Lib.hid (by simp [twR, hr])
    generalize twR n = R at *
    go_enter Try.func10, Try.ntmps10
    go_wp2_with (first | (go_at_call 39; refine (l12Sum_any _ _).mono ?_; rintro e w1 ⟨rfl, rfl⟩) | (go_at_call 40; refine (l07Root_any _ _ (by omega)).mono ?_; rintro e w1 ⟨rfl, rfl⟩))
    clear hr
    go_loopg [5] (rt n + 1).toNat (fun k u wr => ∃ a : Int, u = .int .i64 a ∧ a + 1 = k ∧ a ≤ rt n ∧ Hid (twG n k = R) ∧ w = wr)
    case atStart => exact ⟨rt n, rfl, by omega, by omega, HR, rfl⟩
    case round =>
      obtain ⟨a, rfl, hak, har, HT, rfl⟩ := hrel
      by_cases hm : a = -1
      · subst hm
        have hk0 : gk = 0 := by omega
        subst hk0
        have HN : Hid (R = (0, 0, 3)) := Lib.hid HT.out.symm
        go_wp2_with fail
        all_goals
          go_ret3
          exact ⟨by rw [HN.out]; rfl, rfl⟩
      · obtain ⟨k, rfl⟩ : ∃ k, gk = k + 1 := ⟨gk - 1, by omega⟩
        obtain rfl : a = (k : Int) := by omega
        obtain ⟨q0, q1⟩ := sq_to (a := (k : Int)) (by omega) har r2
        have q2 := two_aa (k : Int)
        have b2 : 0 ≤ 2 * (k : Int) * k ∧ 2 * (k : Int) * k ≤ 2000000 := by omega
        clear q2 hm
        by_cases hlow : n ≤ 2 * (k : Int) * k
        · obtain ⟨s0, s1, s2⟩ := rt_mil (n := n - (k : Int) * k) (by omega)
          have s3 := Int.mul_nonneg s0 s0
          cases hs : sqB (n - (k : Int) * k)
          · have HN : Hid (twG n k = R) := Lib.hid ((tw_miss hlow hs).symm.trans HT.out)
            have he : ((k : Int) * k + rt (n - (k : Int) * k) * rt (n - (k : Int) * k) == n) = false := by
              rw [sqB_iff (by omega)] at hs
              simp at hs ⊢
              omega
            clear hs
            go_wp2_with (first | (go_at_call 40; refine (l07Root_any _ _ (by omega)).mono ?_; rintro e w1 ⟨rfl, rfl⟩))
            go_roundg k
            case measure => omega
            case rel => exact ⟨(k : Int) - 1, rfl, by omega, by omega, HN, rfl⟩
          · have HN : Hid (R = ((k : Int), rt (n - (k : Int) * k), 0)) := Lib.hid (HT.out.symm.trans (tw_hit hlow hs))
            have he : ((k : Int) * k + rt (n - (k : Int) * k) * rt (n - (k : Int) * k) == n) = true := by
              rw [sqB_iff (by omega)] at hs
              simp at hs ⊢
              omega
            clear hs
            go_wp2_with (first | (go_at_call 40; refine (l07Root_any _ _ (by omega)).mono ?_; rintro e w1 ⟨rfl, rfl⟩))
            go_ret3
            exact ⟨by rw [HN.out]; rfl, rfl⟩
        · have HN : Hid (R = (0, 0, 3)) := Lib.hid (HT.out.symm.trans (tw_low hlow))
          go_wp2_with fail
          go_ret3
          exact ⟨by rw [HN.out]; rfl, rfl⟩
theorem walk_FnExactTwoSquares (n : Int) (wn : (Lit.int .i64 n).wf = true) (w : World) :
    Calls Try.prog 3 #[.int .i64 n] w fun e' w' => e' = .returned (.bool true) ∧ Below w.heap.size w w' := by
  go_enter Try.func3, Try.ntmps3
  go_wp2_with (first | (go_at_call 10; refine (sTwoSquares_any _ _).mono ?_; rintro e w1 ⟨rfl, rfl⟩) | (go_at_call 11; refine (iTwoSquares_any _ _).mono ?_; rintro e w1 ⟨rfl, rfl⟩))
  go_returns
  exact ⟨rfl, (by repeat' (first | (with_reducible exact Below.refl _ _) | (with_reducible assumption) | (with_reducible refine Below.setCell ?_ ?_ _) | (with_reducible refine Below.alloc ?_ ?_ _) | (with_reducible refine Below.drew ?_) | (with_reducible refine below_drewN ?_ _) | (with_reducible refine Below.trans ?_ (Below.mono (by with_reducible assumption) ?_)) | go_size | (simp at *; omega)))⟩
end Go.Proofs.Ytodbmnbahldabaa
