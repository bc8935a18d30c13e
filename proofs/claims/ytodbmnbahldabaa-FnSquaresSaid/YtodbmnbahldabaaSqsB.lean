/- Sums of two squares: how many pairs there are: both packages, and the law. -/
import Derived.Test.YtodbmnbahldabaaSqs
namespace Go.Proofs.Ytodbmnbahldabaa
open Go.ChangeShapes Go.WideShapes Go.ChangeAt Go.RowKit
set_option linter.unusedVariables false
set_option maxHeartbeats 1000000
def csG (n x : Int) : Int := if (n - x * x == 0) = true then 1 else if sqB (n - x * x) = true then 2 else 0
def csF (n m : Int) : Nat → Int
  | 0 => 0
  | j + 1 => csF n m j + csG n (-m + j)
theorem csG_b (n x : Int) : 0 ≤ csG n x ∧ csG n x ≤ 2 := by
  unfold csG
  split
  · omega
  · split <;> omega
theorem csF_b (n m : Int) (j : Nat) : 0 ≤ csF n m j ∧ csF n m j ≤ 2 * j := by
  induction j with
  | zero => simp [csF]
  | succ j ih =>
    have := csG_b n (-m + j)
    unfold csF
    omega
theorem csF_succ (n m : Int) (j : Nat) : csF n m (j + 1) = csF n m j + csG n (-m + j) := rfl
def csR (n : Int) : Int × Int := if inR n 0 1000000 = true then (csF n (rt n) (2 * rt n + 1).toNat, 0) else (0, 2)
theorem xx_b {x r n : Int} (h : -r ≤ x ∧ x ≤ r) (h2 : r * r ≤ n) : 0 ≤ x * x ∧ x * x ≤ n := by
  have e : ab x * ab x = x * x := by
    have : ab x = x ∨ ab x = -x := by unfold ab; omega
    rcases this with h | h <;> rw [h]
    exact Int.neg_mul_neg x x
  have a0 : 0 ≤ ab x := by unfold ab; omega
  have a1 : ab x ≤ r := by unfold ab; omega
  have := sq_le_sq a0 a1
  have := Int.mul_nonneg a0 a0
  omega
theorem iCountSquares_any (n : Int) (w : World) :
    Calls Try.prog 13 #[.int .i64 n] w fun e w' => e = .returned (.tuple #[.int .i64 (csR n).1, .int .i64 (csR n).2]) ∧ w = w' := by
  cases hr : inR n 0 1000000
  · have HF : Hid (csR n = (0, 2)) := Lib.hid (by simp [csR, hr])
    go_enter Try.func13, Try.ntmps13
    go_wp2_with (go_at_call 41; refine (within_any _ _ _ _).mono ?_; rintro e w1 ⟨rfl, rfl⟩)
    go_ret2
    exact ⟨by rw [HF.out]; rfl, rfl⟩
  · have hn := inR_iff.1 hr
    obtain ⟨r0, r1, r2⟩ := rt_mil hn
    have HR : Hid (csR n = (csF n (rt n) (2 * rt n + 1).toNat, 0)) := Lib.hid (by simp [csR, hr])
    go_enter Try.func13, Try.ntmps13
    go_wp2_with (first | (go_at_call 41; refine (within_any _ _ _ _).mono ?_; rintro e w1 ⟨rfl, rfl⟩) | (go_at_call 42; refine (root_any _ _ (by omega) (by omega)).mono ?_; rintro e w1 ⟨rfl, rfl⟩))
    clear hr
    generalize rt n = m at *
    go_loopg [4, 6] (2 * m + 1).toNat (fun k s u wr => ∃ j : Nat, (j : Int) + k = 2 * m + 1 ∧ u = .int .i64 (-m + j) ∧ s = .int .i64 (csF n m j) ∧ w = wr)
    case atStart => exact ⟨0, by omega, by simp, rfl, rfl⟩
    case round =>
      obtain ⟨j, hjk, rfl, rfl, rfl⟩ := hrel
      have cb := csF_b n m j
      by_cases hjl : (j : Int) < 2 * m + 1
      · have HS := Lib.hid (csF_succ n m j)
        have hx : -m ≤ -m + (j : Int) ∧ -m + (j : Int) ≤ m := by omega
        have hq := xx_b hx r2
        generalize hxx : -m + (j : Int) = x at *
        have HX := Lib.hid hxx
        clear hxx
        cases h0 : (n - x * x == 0)
        · cases hs : sqB (n - x * x)
          · have HG : Hid (csG n x = 0) := Lib.hid (by unfold csG; rw [h0, hs]; rfl)
            go_wp2_with (go_at_call 43; refine (isSquare_any _ _ (by omega)).mono ?_; rintro e w1 ⟨rfl, rfl⟩)
            go_roundg (gk - 1)
            case measure => omega
            case rel => exact ⟨j + 1, by omega, by rw [← HX.out]; go_num, by rw [HS.out, HG.out]; simp, rfl⟩
          · have HG : Hid (csG n x = 2) := Lib.hid (by unfold csG; rw [h0, hs]; rfl)
            go_wp2_with (go_at_call 43; refine (isSquare_any _ _ (by omega)).mono ?_; rintro e w1 ⟨rfl, rfl⟩)
            go_roundg (gk - 1)
            case measure => omega
            case rel => exact ⟨j + 1, by omega, by rw [← HX.out]; go_num, by rw [HS.out, HG.out], rfl⟩
        · have HG : Hid (csG n x = 1) := Lib.hid (by unfold csG; rw [h0]; rfl)
          go_wp2_with fail
          go_roundg (gk - 1)
          case measure => omega
          case rel => exact ⟨j + 1, by omega, by rw [← HX.out]; go_num, by rw [HS.out, HG.out], rfl⟩
      · have hjl' : ¬ -m + (j : Int) ≤ m := by omega
        have EQ : Hid (j = (2 * m + 1).toNat) := Lib.hid (by omega)
        go_wp2_with fail
        go_ret2
        exact ⟨by rw [HR.out, ← EQ.out]; rfl, rfl⟩
theorem sCountSquares_any (n : Int) (w : World) :
    Calls Try.prog 12 #[.int .i64 n] w fun e w' => e = .returned (.tuple #[.int .i64 (csR n).1, .int .i64 (csR n).2]) ∧ w = w' := by
  cases hr : inR n 0 1000000
  · have HF : Hid (csR n = (0, 2)) := Lib.hid (by simp [csR, hr])
    go_enter Try.func12, Try.ntmps12
    go_wp2_with (go_at_call 39; refine (l12Sum_any _ _).mono ?_; rintro e w1 ⟨rfl, rfl⟩)
    go_ret2
    exact ⟨by rw [HF.out]; rfl, rfl⟩
  · have hn := inR_iff.1 hr
    obtain ⟨r0, r1, r2⟩ := rt_mil hn
    have HR : Hid (csR n = (csF n (rt n) (2 * rt n + 1).toNat, 0)) := Lib.hid (by simp [csR, hr])
    go_enter Try.func12, Try.ntmps12
    go_wp2_with (first | (go_at_call 39; refine (l12Sum_any _ _).mono ?_; rintro e w1 ⟨rfl, rfl⟩) | (go_at_call 40; refine (l07Root_any _ _ (by omega)).mono ?_; rintro e w1 ⟨rfl, rfl⟩))
    clear hr
    generalize rt n = m at *
    go_loopg [5, 6] (2 * m + 1).toNat (fun k s u wr => ∃ j : Nat, (j : Int) + k = 2 * m + 1 ∧ u = .int .i64 (-m + j) ∧ s = .int .i64 (csF n m j) ∧ w = wr)
    case atStart => exact ⟨0, by omega, by simp, rfl, rfl⟩
    case round =>
      obtain ⟨j, hjk, rfl, rfl, rfl⟩ := hrel
      have cb := csF_b n m j
      by_cases hjl : (j : Int) < 2 * m + 1
      · have HS := Lib.hid (csF_succ n m j)
        have hx : -m ≤ -m + (j : Int) ∧ -m + (j : Int) ≤ m := by omega
        have hq := xx_b hx r2
        generalize hxx : -m + (j : Int) = x at *
        have HX := Lib.hid hxx
        clear hxx
        obtain ⟨s0, s1, s2⟩ := rt_mil (n := n - x * x) (by omega)
        have s3 := Int.mul_nonneg s0 s0
        cases hs : sqB (n - x * x)
        · have he : (x * x + rt (n - x * x) * rt (n - x * x) != n) = true := by
            rw [sqB_iff (by omega)] at hs
            simp at hs ⊢
            omega
          have HG : Hid (csG n x = 0) := Lib.hid (by
            unfold csG
            rw [hs]
            have h0 : (n - x * x == 0) = false := by
              cases h : (n - x * x == 0)
              · rfl
              · have h1 : n - x * x = 0 := by simpa using h
                rw [h1] at hs
                have : sqB 0 = true := by unfold sqB; rw [rt_neg (by omega)]; rfl
                rw [this] at hs
                cases hs
            rw [h0]
            rfl)
          clear hs
          go_wp2_with (go_at_call 40; refine (l07Root_any _ _ (by omega)).mono ?_; rintro e w1 ⟨rfl, rfl⟩)
          go_roundg (gk - 1)
          case measure => omega
          case rel => exact ⟨j + 1, by omega, by rw [← HX.out]; go_num, by rw [HS.out, HG.out]; simp, rfl⟩
        · have he : (x * x + rt (n - x * x) * rt (n - x * x) != n) = false := by
            rw [sqB_iff (by omega)] at hs
            simp at hs ⊢
            omega
          by_cases h0 : n - x * x = 0
          · have HG : Hid (csG n x = 1) := Lib.hid (by unfold csG; rw [h0]; rfl)
            have hb : ¬ 0 < rt (n - x * x) := by rw [h0, rt_neg (by omega)]; omega
            clear hs h0
            go_wp2_with (go_at_call 40; refine (l07Root_any _ _ (by omega)).mono ?_; rintro e w1 ⟨rfl, rfl⟩)
            go_roundg (gk - 1)
            case measure => omega
            case rel => exact ⟨j + 1, by omega, by rw [← HX.out]; go_num, by rw [HS.out, HG.out], rfl⟩
          · have HG : Hid (csG n x = 2) := Lib.hid (by
              unfold csG
              have h1 : (n - x * x == 0) = false := by simp [h0]
              rw [h1, hs]
              rfl)
            have hb : 0 < rt (n - x * x) := by
              rcases Int.lt_or_le 0 (rt (n - x * x)) with h | h
              · exact h
              · have e : rt (n - x * x) = 0 := by omega
                rw [e] at he
                simp at he
                omega
            clear hs h0
            go_wp2_with (go_at_call 40; refine (l07Root_any _ _ (by omega)).mono ?_; rintro e w1 ⟨rfl, rfl⟩)
            go_roundg (gk - 1)
            case measure => omega
            case rel => exact ⟨j + 1, by omega, by rw [← HX.out]; go_num, by rw [HS.out, HG.out]; go_num, rfl⟩
      · have hjl' : ¬ -m + (j : Int) ≤ m := by omega
        have EQ : Hid (j = (2 * m + 1).toNat) := Lib.hid (by omega)
        go_wp2_with fail
        go_ret2
        exact ⟨by rw [HR.out, ← EQ.out]; rfl, rfl⟩
theorem walk_FnExactCountSquares (n : Int) (wn : (Lit.int .i64 n).wf = true) (w : World) :
    Calls Try.prog 4 #[.int .i64 n] w fun e' w' => e' = .returned (.bool true) ∧ Below w.heap.size w w' := by
  go_enter Try.func4, Try.ntmps4
  go_wp2_with (first | (go_at_call 12; refine (sCountSquares_any _ _).mono ?_; rintro e w1 ⟨rfl, rfl⟩) | (go_at_call 13; refine (iCountSquares_any _ _).mono ?_; rintro e w1 ⟨rfl, rfl⟩))
  go_returns
  exact ⟨rfl, (by repeat' (first | (with_reducible exact Below.refl _ _) | (with_reducible assumption) | (with_reducible refine Below.setCell ?_ ?_ _) | (with_reducible refine Below.alloc ?_ ?_ _) | (with_reducible refine Below.drew ?_) | (with_reducible refine below_drewN ?_ _) | (with_reducible refine Below.trans ?_ (Below.mono (by with_reducible assumption) ?_)) | go_size | (simp at *; omega)))⟩
end Go.Proofs.Ytodbmnbahldabaa
