/- How far to look: both packages. -/
import Derived.Test.YtdbbjmcfpfalhaaDoorLeastS
import Derived.Test.YtdbbjmcfpfalhaaDoorSurdD
namespace Go.Proofs.YtdbbjmcfpfalhaaDoor
open Go.ChangeShapes Go.WideShapes Go.ChangeAt Go.RowKit
set_option linter.unusedVariables false
set_option maxHeartbeats 8000000
set_option maxRecDepth 20000
theorem cv_x1 {d : Int} {D r n : Nat} (H : PerI d D r n) : ∀ k, k ≤ n → 1 ≤ (cv D r k).x
  | 0, _ => by simp [cv]
  | k + 1, hk => by
    have h1 := cv_x1 H k (by omega)
    have h2 := (cv_up H (k := k) (by omega)).1
    omega
/-- What the least solution with 1 is for the equations. -/
structure LsOk (d X Y : Int) (ok : Bool) : Prop where
  x1 : ok = true → 1 ≤ X
  y0 : ok = true → 0 ≤ Y
  pl : ok = true → pOk d X Y = true
theorem lsOk_of {d : Int} {D r n : Nat} (H : PerI d D r n) : LsOk d (lsR d (cv D r n).x (cv D r n).y (odN n)).1 (lsR d (cv D r n).x (cv D r n).y (odN n)).2.1 (lsR d (cv D r n).x (cv D r n).y (odN n)).2.2 := by
  have hx := cv_x1 H n (Nat.le_refl _)
  have hy := (cv_nn (D := D) (r := r) n).2.1
  have hd1 : 2 ≤ d := by have := H.d1; have := H.eD; omega
  generalize (cv D r n).x = x at *
  generalize (cv D r n).y = y at *
  cases hp : pOk d x y with
  | false =>
    have e : lsR d x y (odN n) = (0, 0, false) := by unfold lsR; rw [hp]; rfl
    rw [e]
    exact ⟨fun h => (by cases h), fun h => (by cases h), fun h => (by cases h)⟩
  | true =>
    cases ho : odN n with
    | false =>
      have e : lsR d x y false = (x, y, true) := by unfold lsR; rw [hp]; rfl
      rw [e]
      exact ⟨fun _ => hx, fun _ => hy, fun _ => hp⟩
    | true =>
      cases hm : muB d x y x y with
      | false =>
        have e : lsR d x y true = ((muR d x y x y).1, (muR d x y x y).2, false) := by unfold lsR; rw [hp, hm]; rfl
        rw [e]
        exact ⟨fun h => (by cases h), fun h => (by cases h), fun h => (by cases h)⟩
      | true =>
        have e : lsR d x y true = (muX d x y x y, muY x y x y, true) := by unfold lsR muR; rw [hp, hm]; rfl
        rw [e]
        have a1 : 1 * 1 ≤ x * x := Int.mul_le_mul hx hx (by omega) (by omega)
        have a2 : 0 ≤ d * y * y := Int.mul_nonneg (Int.mul_nonneg (by omega) hy) hy
        have a3 : 0 ≤ x * y := Int.mul_nonneg (by omega) hy
        have a4 : 0 ≤ y * x := Int.mul_nonneg hy (by omega)
        refine ⟨fun _ => by show 1 ≤ x * x + d * y * y; omega, fun _ => by show 0 ≤ x * y + y * x; omega, fun _ => ?_⟩
        unfold muB at hm
        simp only [Bool.and_eq_true] at hm
        exact hm.2
theorem least_both (d : Int) (h1 : 2 ≤ d) (h2 : d ≤ 10000) (hs : sqB d = false) : ∃ (X Y : Int) (ok : Bool), LsOk d X Y ok ∧
    (∀ w : World, Calls Tryd.prog 36 #[.int .i64 d] w (RetLs X Y ok w)) ∧ (∀ w : World, Calls Tryd.prog 49 #[.int .i64 d] w (RetLs X Y ok w)) := by
  obtain ⟨D, r, n, H⟩ := perI_of h1 h2 hs
  exact ⟨_, _, _, lsOk_of H, fun w => (leastPell_any d D r n H w).mono fun e w' h => ⟨_, _, h.1, fun _ => ⟨rfl, rfl⟩, h.2⟩, fun w => l09Least_any d D r n H w⟩
def mxV (d n X : Int) : Int := (if n < 0 then -(n * (X + 1)) else n * (X - 1)) / (2 * d)
def lkR (d n X : Int) (ok : Bool) : Int × Int := if ok = true then (if rt (mxV d n X) > 100000 then (0, 5) else (rt (mxV d n X), 0)) else (0, 5)
theorem lkR_true (d n X : Int) : lkR d n X true = if rt (mxV d n X) > 100000 then (0, 5) else (rt (mxV d n X), 0) := by unfold lkR; rw [if_pos rfl]
theorem lkR_false (d n X : Int) : lkR d n X false = (0, 5) := by unfold lkR; rw [if_neg (by decide)]
theorem lk_facts {d n X : Int} (hd : 2 ≤ d ∧ d ≤ 10000) (hn : -1000 ≤ n ∧ n ≤ 1000) (hx : 1 ≤ X ∧ X ≤ 1000000000) :
    (-1000000000000 ≤ n * (X - 1) ∧ n * (X - 1) ≤ 1000000000000) ∧ (-1000000001000 ≤ n * (X + 1) ∧ n * (X + 1) ≤ 1000000001000) ∧ (n < 0 → n * (X - 1) ≤ 0 ∧ n * (X + 1) ≤ 0) ∧ (0 ≤ n → 0 ≤ n * (X - 1) ∧ 0 ≤ n * (X + 1)) := by
  have m1 := mul_b hn (b := X - 1) (B := 1000000000) (by omega)
  have m2 := mul_b hn (b := X + 1) (B := 1000000001) (by omega)
  refine ⟨by omega, by omega, fun h => ⟨?_, ?_⟩, fun h => ⟨Int.mul_nonneg h (by omega), Int.mul_nonneg h (by omega)⟩⟩
  · have := Int.mul_nonneg (a := -n) (b := X - 1) (by omega) (by omega)
    rw [Int.neg_mul] at this; omega
  · have := Int.mul_nonneg (a := -n) (b := X + 1) (by omega) (by omega)
    rw [Int.neg_mul] at this; omega
theorem lk_parts {d n X : Int} (hd : 2 ≤ d ∧ d ≤ 10000) (hn : -1000 ≤ n ∧ n ≤ 1000) (hn0 : n ≠ 0) (hx : 1 ≤ X ∧ X ≤ 1000000000) :
    ∃ P1 P3 M : Int, n * (X - 1) = P1 ∧ n * (X + 1) = P3 ∧ (-1000000000000 ≤ P1 ∧ P1 ≤ 1000000000000) ∧ (-1000000001000 ≤ P3 ∧ P3 ≤ 1000000001000) ∧ mxV d n X = M ∧ 0 ≤ M ∧ M ≤ 1000000001000 ∧
      (n < 0 → P1 < -P3 ∧ (-P3).tdiv (2 * d) = M) ∧ (0 < n → -P3 ≤ P1 ∧ P1.tdiv (2 * d) = M) := by
  obtain ⟨m1, m2, m3, m4⟩ := lk_facts hd hn hx
  have h2 : 0 < n → 0 < n * (X + 1) := fun h => Int.mul_pos h (by omega)
  have h3 : n < 0 → 0 < -n * (X + 1) := fun h => Int.mul_pos (by omega) (by omega)
  rw [Int.neg_mul] at h3
  refine ⟨n * (X - 1), n * (X + 1), mxV d n X, rfl, rfl, m1, m2, rfl, ?_, ?_, ?_, ?_⟩
  · unfold mxV
    exact Int.ediv_nonneg (by split <;> omega) (by omega)
  · unfold mxV
    have h0 : 0 ≤ (if n < 0 then -(n * (X + 1)) else n * (X - 1)) := by split <;> omega
    have h1 : (if n < 0 then -(n * (X + 1)) else n * (X - 1)) ≤ 1000000001000 := by split <;> omega
    exact Int.le_trans (Int.ediv_le_self _ h0) h1
  · intro h
    refine ⟨by have := h3 h; have := m3 h; omega, ?_⟩
    unfold mxV
    rw [if_pos h]
    exact Int.tdiv_eq_ediv_of_nonneg (by have := h3 h; omega)
  · intro h
    refine ⟨by have := h2 h; have := m4 (by omega); omega, ?_⟩
    unfold mxV
    rw [if_neg (by omega)]
    exact Int.tdiv_eq_ediv_of_nonneg (m4 (by omega)).1
theorem iLook_any (d n X Y : Int) (ok : Bool) (w : World) (hc : eqC d n = 0) (HL : LsOk d X Y ok) (LI : ∀ w : World, Calls Tryd.prog 36 #[.int .i64 d] w (RetLs X Y ok w)) :
    Calls Tryd.prog 13 #[.int .i64 d, .int .i64 n] w fun e w' => e = .returned (.tuple #[.int .i64 (lkR d n X ok).1, .int .i64 (lkR d n X ok).2]) ∧ Below w.heap.size w w' := by
  obtain ⟨⟨hd, hn, hn0⟩, -⟩ := eqC_zero hc
  have LI' := Lib.hid LI
  clear LI
  cases ok
  · have HF : Hid (lkR d n X false = (0, 5)) := Lib.hid (lkR_false d n X)
    clear HL
    go_enter Tryd.func13, Tryd.ntmps13
    go_wp2_with (go_at_call 23; refine (checkEquation_any _ _ _).mono ?_; rintro e w1 ⟨rfl, rfl⟩)
    refine (LI'.out _).mono ?_
    rintro e w1 ⟨x, y, rfl, -, hb1⟩
    obtain ⟨hc1, hf1, -, hB1⟩ := bcell hb1; have hz1 := hb1.size; (try simp at hz1); (try have hk1_0 : w.heap.size < w1.heap.size := by omega); (try have hk1_1 : w.heap.size + 1 < w1.heap.size := by omega); (try have hk1_2 : w.heap.size + 1 + 1 < w1.heap.size := by omega); (try have hk1_3 : w.heap.size + 1 + 1 + 1 < w1.heap.size := by omega); (try have hk1_4 : wr.heap.size < w1.heap.size := by omega); (try have hk1_5 : wr.heap.size + 1 < w1.heap.size := by omega)
    go_wp2_with fail
    go_ret2
    exact ⟨by rw [HF.out]; rfl, (by repeat' (first | (with_reducible exact Below.refl _ _) | (with_reducible assumption) | (with_reducible refine Below.setCell ?_ ?_ _) | (with_reducible refine Below.alloc ?_ ?_ _) | (with_reducible refine Below.drew ?_) | (with_reducible refine below_drewN ?_ _) | (with_reducible refine Below.trans ?_ (Below.mono (by with_reducible assumption) ?_)) | go_size | (simp at *; omega)))⟩
  · have hp := pOk_iff.1 (HL.pl rfl)
    have hx1 := HL.x1 rfl
    obtain ⟨P1, P3, M, e1, e3, b1, b3, hM, hM0, hM1, hneg, hpos⟩ := lk_parts (by omega : 2 ≤ d ∧ d ≤ 10000) hn hn0 (X := X) (by omega)
    have HF0 : Hid (lkR d n X true = if rt M > 100000 then (0, 5) else (rt M, 0)) := Lib.hid (by rw [← hM]; exact lkR_true d n X)
    have hx2 : X ≤ 1000000000 := by omega
    have e2 : -n * (X + 1) = -P3 := by rw [Int.neg_mul, e3]
    have RT := Lib.hid (root_any M · hM0 (by omega))
    have hr0 := (rt_spec (n := M) (by omega) (by omega)).1
    generalize rt M = R at *
    clear hM HL hp
    by_cases hr : R > 100000
    · have HF : Hid (lkR d n X true = (0, 5)) := Lib.hid (by rw [HF0.out, if_pos hr])
      clear HF0
      rcases Int.lt_or_gt_of_ne hn0 with hn1 | hn1
      · obtain ⟨c1, c2⟩ := hneg hn1
        clear hneg hpos
        go_enter Tryd.func13, Tryd.ntmps13
        go_wp2_with (go_at_call 23; refine (checkEquation_any _ _ _).mono ?_; rintro e w1 ⟨rfl, rfl⟩)
        refine (LI'.out _).mono ?_
        rintro e w1 ⟨x, y, rfl, hxy, hb1⟩
        obtain ⟨rfl, rfl⟩ := hxy rfl
        obtain ⟨hc1, hf1, -, hB1⟩ := bcell hb1; have hz1 := hb1.size; (try simp at hz1); (try have hk1_0 : w.heap.size < w1.heap.size := by omega); (try have hk1_1 : w.heap.size + 1 < w1.heap.size := by omega); (try have hk1_2 : w.heap.size + 1 + 1 < w1.heap.size := by omega); (try have hk1_3 : w.heap.size + 1 + 1 + 1 < w1.heap.size := by omega); (try have hk1_4 : wr.heap.size < w1.heap.size := by omega); (try have hk1_5 : wr.heap.size + 1 < w1.heap.size := by omega)
        go_wp2_with (go_at_call 37; refine (RT.out _).mono ?_; rintro e w1 ⟨rfl, rfl⟩)
        all_goals
          go_ret2
          exact ⟨by rw [HF.out]; rfl, (by repeat' (first | (with_reducible exact Below.refl _ _) | (with_reducible assumption) | (with_reducible refine Below.setCell ?_ ?_ _) | (with_reducible refine Below.alloc ?_ ?_ _) | (with_reducible refine Below.drew ?_) | (with_reducible refine below_drewN ?_ _) | (with_reducible refine Below.trans ?_ (Below.mono (by with_reducible assumption) ?_)) | go_size | (simp at *; omega)))⟩
      · obtain ⟨c1, c2⟩ := hpos hn1
        clear hneg hpos
        go_enter Tryd.func13, Tryd.ntmps13
        go_wp2_with (go_at_call 23; refine (checkEquation_any _ _ _).mono ?_; rintro e w1 ⟨rfl, rfl⟩)
        refine (LI'.out _).mono ?_
        rintro e w1 ⟨x, y, rfl, hxy, hb1⟩
        obtain ⟨rfl, rfl⟩ := hxy rfl
        obtain ⟨hc1, hf1, -, hB1⟩ := bcell hb1; have hz1 := hb1.size; (try simp at hz1); (try have hk1_0 : w.heap.size < w1.heap.size := by omega); (try have hk1_1 : w.heap.size + 1 < w1.heap.size := by omega); (try have hk1_2 : w.heap.size + 1 + 1 < w1.heap.size := by omega); (try have hk1_3 : w.heap.size + 1 + 1 + 1 < w1.heap.size := by omega); (try have hk1_4 : wr.heap.size < w1.heap.size := by omega); (try have hk1_5 : wr.heap.size + 1 < w1.heap.size := by omega)
        go_wp2_with (go_at_call 37; refine (RT.out _).mono ?_; rintro e w1 ⟨rfl, rfl⟩)
        all_goals
          go_ret2
          exact ⟨by rw [HF.out]; rfl, (by repeat' (first | (with_reducible exact Below.refl _ _) | (with_reducible assumption) | (with_reducible refine Below.setCell ?_ ?_ _) | (with_reducible refine Below.alloc ?_ ?_ _) | (with_reducible refine Below.drew ?_) | (with_reducible refine below_drewN ?_ _) | (with_reducible refine Below.trans ?_ (Below.mono (by with_reducible assumption) ?_)) | go_size | (simp at *; omega)))⟩
    · have HF : Hid (lkR d n X true = (R, 0)) := Lib.hid (by rw [HF0.out, if_neg hr])
      clear HF0
      rcases Int.lt_or_gt_of_ne hn0 with hn1 | hn1
      · obtain ⟨c1, c2⟩ := hneg hn1
        clear hneg hpos
        go_enter Tryd.func13, Tryd.ntmps13
        go_wp2_with (go_at_call 23; refine (checkEquation_any _ _ _).mono ?_; rintro e w1 ⟨rfl, rfl⟩)
        refine (LI'.out _).mono ?_
        rintro e w1 ⟨x, y, rfl, hxy, hb1⟩
        obtain ⟨rfl, rfl⟩ := hxy rfl
        obtain ⟨hc1, hf1, -, hB1⟩ := bcell hb1; have hz1 := hb1.size; (try simp at hz1); (try have hk1_0 : w.heap.size < w1.heap.size := by omega); (try have hk1_1 : w.heap.size + 1 < w1.heap.size := by omega); (try have hk1_2 : w.heap.size + 1 + 1 < w1.heap.size := by omega); (try have hk1_3 : w.heap.size + 1 + 1 + 1 < w1.heap.size := by omega); (try have hk1_4 : wr.heap.size < w1.heap.size := by omega); (try have hk1_5 : wr.heap.size + 1 < w1.heap.size := by omega)
        go_wp2_with (go_at_call 37; refine (RT.out _).mono ?_; rintro e w1 ⟨rfl, rfl⟩)
        all_goals
          go_ret2
          exact ⟨by rw [HF.out]; rfl, (by repeat' (first | (with_reducible exact Below.refl _ _) | (with_reducible assumption) | (with_reducible refine Below.setCell ?_ ?_ _) | (with_reducible refine Below.alloc ?_ ?_ _) | (with_reducible refine Below.drew ?_) | (with_reducible refine below_drewN ?_ _) | (with_reducible refine Below.trans ?_ (Below.mono (by with_reducible assumption) ?_)) | go_size | (simp at *; omega)))⟩
      · obtain ⟨c1, c2⟩ := hpos hn1
        clear hneg hpos
        go_enter Tryd.func13, Tryd.ntmps13
        go_wp2_with (go_at_call 23; refine (checkEquation_any _ _ _).mono ?_; rintro e w1 ⟨rfl, rfl⟩)
        refine (LI'.out _).mono ?_
        rintro e w1 ⟨x, y, rfl, hxy, hb1⟩
        obtain ⟨rfl, rfl⟩ := hxy rfl
        obtain ⟨hc1, hf1, -, hB1⟩ := bcell hb1; have hz1 := hb1.size; (try simp at hz1); (try have hk1_0 : w.heap.size < w1.heap.size := by omega); (try have hk1_1 : w.heap.size + 1 < w1.heap.size := by omega); (try have hk1_2 : w.heap.size + 1 + 1 < w1.heap.size := by omega); (try have hk1_3 : w.heap.size + 1 + 1 + 1 < w1.heap.size := by omega); (try have hk1_4 : wr.heap.size < w1.heap.size := by omega); (try have hk1_5 : wr.heap.size + 1 < w1.heap.size := by omega)
        go_wp2_with (go_at_call 37; refine (RT.out _).mono ?_; rintro e w1 ⟨rfl, rfl⟩)
        all_goals
          go_ret2
          exact ⟨by rw [HF.out]; rfl, (by repeat' (first | (with_reducible exact Below.refl _ _) | (with_reducible assumption) | (with_reducible refine Below.setCell ?_ ?_ _) | (with_reducible refine Below.alloc ?_ ?_ _) | (with_reducible refine Below.drew ?_) | (with_reducible refine below_drewN ?_ _) | (with_reducible refine Below.trans ?_ (Below.mono (by with_reducible assumption) ?_)) | go_size | (simp at *; omega)))⟩
end Go.Proofs.YtdbbjmcfpfalhaaDoor
