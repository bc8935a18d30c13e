/- Equations x x - d y y = n: plain pairs, norms, codes, solutions: both packages. -/
import Derived.Test.YtdbbjmcfpfalhaaDoorAggs
import Derived.Test.YtdbbjmcfpfalhaaDoorQuo
import Derived.Test.YtdbbjmcfpfalhaaDoorRoot
import Derived.Test.YtdbbjmcfpfalhaaDoorOwnB
import Derived.IntWalk
namespace Go.Proofs.YtdbbjmcfpfalhaaDoor
open Go.ChangeShapes Go.WideShapes Go.ChangeAt Go.RowKit
set_option linter.unusedVariables false
set_option maxHeartbeats 1000000
/-- A plain pair, for d. -/
def pOk (d x y : Int) : Bool := inR x (-1000000000) 1000000000 && (inR y (-1000000000) 1000000000 && decide (y * y ≤ 1000000000000000000 / d))
def nrm (d x y : Int) : Int := x * x - d * y * y
theorem ab_ge (x : Int) : x ≤ ab x ∧ -x ≤ ab x := by unfold ab; omega
theorem ab_mulI (x y : Int) : ab (x * y) = ab x * ab y := by unfold ab; rw [Int.natAbs_mul]; rfl
theorem ab_sqI (x : Int) : ab x * ab x = x * x := by
  have : ab x = x ∨ ab x = -x := by unfold ab; omega
  rcases this with h | h <;> rw [h]
  exact Int.neg_mul_neg x x
theorem sq_nn (x : Int) : 0 ≤ x * x := by rw [← ab_sqI]; exact Int.mul_nonneg (ab_nonneg _) (ab_nonneg _)
theorem mul_b {a b A B : Int} (ha : -A ≤ a ∧ a ≤ A) (hb : -B ≤ b ∧ b ≤ B) : -(A * B) ≤ a * b ∧ a * b ≤ A * B := by
  have hA : 0 ≤ A := by omega
  have hB : 0 ≤ B := by omega
  have h1 : (a * b).natAbs ≤ (A * B).natAbs := by
    rw [Int.natAbs_mul, Int.natAbs_mul]
    exact Nat.mul_le_mul (by omega) (by omega)
  have h2 : 0 ≤ A * B := Int.mul_nonneg hA hB
  omega
theorem pOk_is {d x y : Int} (h : pOk d x y = true) : (-1000000000 ≤ x ∧ x ≤ 1000000000) ∧ (-1000000000 ≤ y ∧ y ≤ 1000000000) ∧ y * y ≤ 1000000000000000000 / d := by
  simp only [pOk, Bool.and_eq_true, inR_iff, decide_eq_true_eq] at h
  exact ⟨h.1, h.2.1, h.2.2⟩
theorem pOk_dyy {d x y : Int} (hd : 1 ≤ d) (h : pOk d x y = true) : d * (y * y) ≤ 1000000000000000000 := by
  obtain ⟨-, -, h3⟩ := pOk_is h
  have h1 := Int.mul_le_mul_of_nonneg_left h3 (by omega : 0 ≤ d)
  have h2 := Int.mul_ediv_self_le (x := 1000000000000000000) (k := d) (by omega)
  omega
/-- d y z is not too great where d y y and d z z are not. -/
theorem dyz {d y z : Int} (hd : 1 ≤ d) (h1 : d * (y * y) ≤ 1000000000000000000) (h2 : d * (z * z) ≤ 1000000000000000000) : -1000000000000000000 ≤ d * y * z ∧ d * y * z ≤ 1000000000000000000 := by
  have key : ab (y * z) ≤ y * y ∨ ab (y * z) ≤ z * z := by
    rw [ab_mulI, ← ab_sqI y, ← ab_sqI z]
    have a0 := ab_nonneg y
    have b0 := ab_nonneg z
    rcases Int.le_total (ab y) (ab z) with h | h
    · right; exact Int.mul_le_mul_of_nonneg_right h b0
    · left; exact Int.mul_le_mul_of_nonneg_left h a0
  have e : d * y * z = d * (y * z) := Int.mul_assoc ..
  have e2 : ab (d * (y * z)) = d * ab (y * z) := by rw [ab_mulI, ab_pos (by omega : 0 ≤ d)]
  have h3 : d * ab (y * z) ≤ 1000000000000000000 := by
    rcases key with h | h
    · have := Int.mul_le_mul_of_nonneg_left h (by omega : 0 ≤ d); omega
    · have := Int.mul_le_mul_of_nonneg_left h (by omega : 0 ≤ d); omega
  have h4 := ab_ge (d * (y * z))
  omega
theorem within_is {n lo hi : Int} {b : Bool} (h : inR n lo hi = b) (w : World) :
    Calls Tryd.prog 30 #[.int .i64 n, .int .i64 lo, .int .i64 hi] w fun e w' => e = .returned (.bool b) ∧ w = w' := by
  subst h
  exact within_any _ _ _ _
theorem isPlainPair_any (d x y : Int) (w : World) (hd : 2 ≤ d ∧ d ≤ 10000) :
    Calls Tryd.prog 32 #[.int .i64 d, .agg #[.int .i64 x, .int .i64 y]] w fun e w' => e = .returned (.bool (pOk d x y)) ∧ Below w.heap.size w w' := by
  have hn : ¬ d = 0 := by omega
  obtain ⟨Q, hQ⟩ : ∃ Q, (1000000000000000000 : Int) / d = Q := ⟨_, rfl⟩
  have e0 : (1000000000000000000 : Int).tdiv d = Q := by rw [← hQ]; exact Int.tdiv_eq_ediv_of_nonneg (by omega)
  have q0 := Int.ediv_nonneg (by omega : (0 : Int) ≤ 1000000000000000000) (by omega : 0 ≤ d)
  have q1 := Int.ediv_le_self (a := 1000000000000000000) d (by omega)
  rw [hQ] at q0 q1
  have HS : Hid (pOk d x y = (inR x (-1000000000) 1000000000 && (inR y (-1000000000) 1000000000 && decide (y * y ≤ Q)))) := Lib.hid (by rw [← hQ]; rfl)
  have v2 : IntKind.i64.wrap Q = Q := IntWalk.i64_in _ (by omega)
  cases h1 : inR x (-1000000000) 1000000000
  · have H1 := Lib.hid h1
    have H2 := Lib.hid h1
    clear h1
    go_enter Tryd.func32, Tryd.ntmps32
    go_wp2_with fail
    go_quiet ((go_at_call 30; first | (with_reducible exact quiet_left (within_is H1.out _)) | (with_reducible exact quiet_left (within_is H2.out _))))
    go_wp2
    go_ret
    exact ⟨ret_bool (by rw [HS.out, H1.out]; rfl), (by repeat' (first | (with_reducible exact Below.refl _ _) | (with_reducible assumption) | (with_reducible refine Below.setCell ?_ ?_ _) | (with_reducible refine Below.alloc ?_ ?_ _) | (with_reducible refine Below.drew ?_) | (with_reducible refine below_drewN ?_ _) | (with_reducible refine Below.trans ?_ (Below.mono (by with_reducible assumption) ?_)) | go_size | (simp at *; omega)))⟩
  · cases h2 : inR y (-1000000000) 1000000000
    · have H1 := Lib.hid h1
      have H2 := Lib.hid h2
      clear h1 h2
      go_enter Tryd.func32, Tryd.ntmps32
      go_wp2_with fail
      go_quiet ((go_at_call 30; first | (with_reducible exact quiet_left (within_is H1.out _)) | (with_reducible exact quiet_left (within_is H2.out _))))
      go_wp2
      go_ret
      exact ⟨ret_bool (by rw [HS.out, H1.out, H2.out]; rfl), (by repeat' (first | (with_reducible exact Below.refl _ _) | (with_reducible assumption) | (with_reducible refine Below.setCell ?_ ?_ _) | (with_reducible refine Below.alloc ?_ ?_ _) | (with_reducible refine Below.drew ?_) | (with_reducible refine below_drewN ?_ _) | (with_reducible refine Below.trans ?_ (Below.mono (by with_reducible assumption) ?_)) | go_size | (simp at *; omega)))⟩
    · have y1 := inR_iff.1 h2
      have m1 := mul_b y1 y1
      have H1 := Lib.hid h1
      have H2 := Lib.hid h2
      clear h1 h2
      have v1 : IntKind.i64.wrap (y * y) = y * y := IntWalk.i64_in _ (by omega)
      go_enter Tryd.func32, Tryd.ntmps32
      go_wp2_with fail
      go_quiet ((go_at_call 30; first | (with_reducible exact quiet_left (within_is H1.out _)) | (with_reducible exact quiet_left (within_is H2.out _))))
      go_wp2
      go_ret
      exact ⟨ret_bool (by rw [HS.out, H1.out, H2.out]; rfl), (by repeat' (first | (with_reducible exact Below.refl _ _) | (with_reducible assumption) | (with_reducible refine Below.setCell ?_ ?_ _) | (with_reducible refine Below.alloc ?_ ?_ _) | (with_reducible refine Below.drew ?_) | (with_reducible refine below_drewN ?_ _) | (with_reducible refine Below.trans ?_ (Below.mono (by with_reducible assumption) ?_)) | go_size | (simp at *; omega)))⟩
theorem l09Ok_any (d x y : Int) (w : World) (hd : 2 ≤ d ∧ d ≤ 10000) :
    Calls Tryd.prog 55 #[.int .i64 d, .agg #[.int .i64 x, .int .i64 y]] w fun e w' => e = .returned (.bool (pOk d x y)) ∧ Below w.heap.size w w' := by
  have hn : ¬ d = 0 := by omega
  obtain ⟨Q, hQ⟩ : ∃ Q, (1000000000000000000 : Int) / d = Q := ⟨_, rfl⟩
  have e0 : (1000000000000000000 : Int).tdiv d = Q := by rw [← hQ]; exact Int.tdiv_eq_ediv_of_nonneg (by omega)
  have q0 := Int.ediv_nonneg (by omega : (0 : Int) ≤ 1000000000000000000) (by omega : 0 ≤ d)
  have q1 := Int.ediv_le_self (a := 1000000000000000000) d (by omega)
  rw [hQ] at q0 q1
  have HS : Hid (pOk d x y = (inR x (-1000000000) 1000000000 && (inR y (-1000000000) 1000000000 && decide (y * y ≤ Q)))) := Lib.hid (by rw [← hQ]; rfl)
  cases h1 : inR x (-1000000000) 1000000000
  · go_enter Tryd.func55, Tryd.ntmps55
    go_wp2_with (go_at_call 33; refine (in_any _ _ _ _).mono ?_; rintro e w1 ⟨rfl, rfl⟩)
    go_ret
    exact ⟨ret_bool (by rw [HS.out, h1]; rfl), (by repeat' (first | (with_reducible exact Below.refl _ _) | (with_reducible assumption) | (with_reducible refine Below.setCell ?_ ?_ _) | (with_reducible refine Below.alloc ?_ ?_ _) | (with_reducible refine Below.drew ?_) | (with_reducible refine below_drewN ?_ _) | (with_reducible refine Below.trans ?_ (Below.mono (by with_reducible assumption) ?_)) | go_size | (simp at *; omega)))⟩
  · cases h2 : inR y (-1000000000) 1000000000
    · go_enter Tryd.func55, Tryd.ntmps55
      go_wp2_with (go_at_call 33; refine (in_any _ _ _ _).mono ?_; rintro e w1 ⟨rfl, rfl⟩)
      go_ret
      exact ⟨ret_bool (by rw [HS.out, h1, h2]; rfl), (by repeat' (first | (with_reducible exact Below.refl _ _) | (with_reducible assumption) | (with_reducible refine Below.setCell ?_ ?_ _) | (with_reducible refine Below.alloc ?_ ?_ _) | (with_reducible refine Below.drew ?_) | (with_reducible refine below_drewN ?_ _) | (with_reducible refine Below.trans ?_ (Below.mono (by with_reducible assumption) ?_)) | go_size | (simp at *; omega)))⟩
    · have y1 := inR_iff.1 h2
      have m1 := mul_b y1 y1
      go_enter Tryd.func55, Tryd.ntmps55
      go_wp2_with (go_at_call 33; refine (in_any _ _ _ _).mono ?_; rintro e w1 ⟨rfl, rfl⟩)
      have v1 : IntKind.i64.wrap (y * y) = y * y := IntWalk.i64_in _ (by omega)
      have v2 : IntKind.i64.wrap Q = Q := IntWalk.i64_in _ (by omega)
      go_quiet (fail)
      go_wp2
      go_ret
      exact ⟨ret_bool (by rw [HS.out, h1, h2]; rfl), (by repeat' (first | (with_reducible exact Below.refl _ _) | (with_reducible assumption) | (with_reducible refine Below.setCell ?_ ?_ _) | (with_reducible refine Below.alloc ?_ ?_ _) | (with_reducible refine Below.drew ?_) | (with_reducible refine below_drewN ?_ _) | (with_reducible refine Below.trans ?_ (Below.mono (by with_reducible assumption) ?_)) | go_size | (simp at *; omega)))⟩
theorem nrm_b {d x y : Int} (hd : 2 ≤ d ∧ d ≤ 10000) (h : pOk d x y = true) : (0 ≤ x * x ∧ x * x ≤ 1000000000000000000) ∧ (-10000000000000 ≤ d * y ∧ d * y ≤ 10000000000000) ∧ (-1000000000000000000 ≤ d * y * y ∧ d * y * y ≤ 1000000000000000000) := by
  obtain ⟨h1, h2, -⟩ := pOk_is h
  have m1 := mul_b h1 h1
  have m2 := mul_b (a := d) (A := 10000) (by omega) h2
  have m3 := pOk_dyy (by omega) h
  exact ⟨⟨sq_nn x, by omega⟩, by omega, dyz (by omega) m3 m3⟩
theorem norm_any (d x y : Int) (w : World) (hd : 2 ≤ d ∧ d ≤ 10000) (h : pOk d x y = true) :
    Calls Tryd.prog 54 #[.int .i64 d, .agg #[.int .i64 x, .int .i64 y]] w fun e w' => e = .returned (.int .i64 (nrm d x y)) ∧ Below w.heap.size w w' := by
  obtain ⟨m1, m2, m3⟩ := nrm_b hd h
  clear h
  go_enter Tryd.func54, Tryd.ntmps54
  go_wp2
  go_ret
  exact ⟨rfl, (by repeat' (first | (with_reducible exact Below.refl _ _) | (with_reducible assumption) | (with_reducible refine Below.setCell ?_ ?_ _) | (with_reducible refine Below.alloc ?_ ?_ _) | (with_reducible refine Below.drew ?_) | (with_reducible refine below_drewN ?_ _) | (with_reducible refine Below.trans ?_ (Below.mono (by with_reducible assumption) ?_)) | go_size | (simp at *; omega)))⟩
theorem l09Norm_any (d x y : Int) (w : World) (hd : 2 ≤ d ∧ d ≤ 10000) (h : pOk d x y = true) :
    Calls Tryd.prog 56 #[.int .i64 d, .agg #[.int .i64 x, .int .i64 y]] w fun e w' => e = .returned (.int .i64 (nrm d x y)) ∧ Below w.heap.size w w' := by
  obtain ⟨m1, m2, m3⟩ := nrm_b hd h
  clear h
  go_enter Tryd.func56, Tryd.ntmps56
  go_wp2
  go_ret
  exact ⟨rfl, (by repeat' (first | (with_reducible exact Below.refl _ _) | (with_reducible assumption) | (with_reducible refine Below.setCell ?_ ?_ _) | (with_reducible refine Below.alloc ?_ ?_ _) | (with_reducible refine Below.drew ?_) | (with_reducible refine below_drewN ?_ _) | (with_reducible refine Below.trans ?_ (Below.mono (by with_reducible assumption) ?_)) | go_size | (simp at *; omega)))⟩
/-- The code of an equation. -/
def eqC (d n : Int) : Int := if (inR d 2 1000 && (inR n (-1000) 1000 && n != 0)) = true then (if sqB d = true then 6 else 0) else 2
theorem eqC_in {d n : Int} (h : eqC d n ≠ 2) : (2 ≤ d ∧ d ≤ 1000) ∧ (-1000 ≤ n ∧ n ≤ 1000) ∧ n ≠ 0 := by
  unfold eqC at h
  split at h
  · rename_i h1
    simp only [Bool.and_eq_true, inR_iff, bne_iff_ne] at h1
    exact ⟨h1.1, h1.2.1, h1.2.2⟩
  · simp at h
theorem eqC_zero {d n : Int} (h : eqC d n = 0) : ((2 ≤ d ∧ d ≤ 1000) ∧ (-1000 ≤ n ∧ n ≤ 1000) ∧ n ≠ 0) ∧ sqB d = false := by
  refine ⟨eqC_in (by omega), ?_⟩
  unfold eqC at h
  split at h
  · split at h
    · cases h
    · rename_i h2; simpa using h2
  · cases h
theorem checkEquation_any (d n : Int) (w : World) :
    Calls Tryd.prog 23 #[.int .i64 d, .int .i64 n] w fun e w' => e = .returned (.int .i64 (eqC d n)) ∧ w = w' := by
  cases h1 : inR d 2 1000
  · have HF : Hid (eqC d n = 2) := Lib.hid (by simp [eqC, h1])
    go_enter Tryd.func23, Tryd.ntmps23
    go_wp2_with (go_at_call 30; refine (within_any _ _ _ _).mono ?_; rintro e w1 ⟨rfl, rfl⟩)
    go_ret
    exact ⟨ret_int HF.out.symm, rfl⟩
  · have hd := inR_iff.1 h1
    cases h2 : inR n (-1000) 1000
    · have HF : Hid (eqC d n = 2) := Lib.hid (by simp [eqC, h2])
      go_enter Tryd.func23, Tryd.ntmps23
      go_wp2_with (go_at_call 30; refine (within_any _ _ _ _).mono ?_; rintro e w1 ⟨rfl, rfl⟩)
      go_ret
      exact ⟨ret_int HF.out.symm, rfl⟩
    · cases h3 : (n == 0)
      · cases h4 : sqB d
        · have HF : Hid (eqC d n = 0) := Lib.hid (by simp at h3; simp [eqC, h1, h2, h3, h4])
          go_enter Tryd.func23, Tryd.ntmps23
          go_wp2_with (first | (go_at_call 30; refine (within_any _ _ _ _).mono ?_; rintro e w1 ⟨rfl, rfl⟩) | (go_at_call 45; refine (isSquare_any _ _ (by omega)).mono ?_; rintro e w1 ⟨rfl, rfl⟩))
          go_ret
          exact ⟨ret_int HF.out.symm, rfl⟩
        · have HF : Hid (eqC d n = 6) := Lib.hid (by simp at h3; simp [eqC, h1, h2, h3, h4])
          go_enter Tryd.func23, Tryd.ntmps23
          go_wp2_with (first | (go_at_call 30; refine (within_any _ _ _ _).mono ?_; rintro e w1 ⟨rfl, rfl⟩) | (go_at_call 45; refine (isSquare_any _ _ (by omega)).mono ?_; rintro e w1 ⟨rfl, rfl⟩))
          go_ret
          exact ⟨ret_int HF.out.symm, rfl⟩
      · have HF : Hid (eqC d n = 2) := Lib.hid (by simp at h3; simp [eqC, h3])
        go_enter Tryd.func23, Tryd.ntmps23
        go_wp2_with (go_at_call 30; refine (within_any _ _ _ _).mono ?_; rintro e w1 ⟨rfl, rfl⟩)
        go_ret
        exact ⟨ret_int HF.out.symm, rfl⟩
theorem l10Code_any (d n : Int) (w : World) :
    Calls Tryd.prog 21 #[.int .i64 d, .int .i64 n] w fun e w' => e = .returned (.int .i64 (eqC d n)) ∧ w = w' := by
  cases h2 : inR n (-1000) 1000
  · have HF : Hid (eqC d n = 2) := Lib.hid (by simp [eqC, h2])
    go_enter Tryd.func21, Tryd.ntmps21
    go_wp2_with (go_at_call 33; refine (in_any _ _ _ _).mono ?_; rintro e w1 ⟨rfl, rfl⟩)
    go_ret
    exact ⟨ret_int HF.out.symm, rfl⟩
  · cases h3 : (n == 0)
    · cases h1 : inR d 2 1000
      · have HF : Hid (eqC d n = 2) := Lib.hid (by simp [eqC, h1])
        go_enter Tryd.func21, Tryd.ntmps21
        go_wp2_with (go_at_call 33; refine (in_any _ _ _ _).mono ?_; rintro e w1 ⟨rfl, rfl⟩)
        go_ret
        exact ⟨ret_int HF.out.symm, rfl⟩
      · have hd := inR_iff.1 h1
        cases h4 : sqB d
        · have HF : Hid (eqC d n = 0) := Lib.hid (by simp at h3; simp [eqC, h1, h2, h3, h4])
          go_enter Tryd.func21, Tryd.ntmps21
          go_wp2_with (first | (go_at_call 33; refine (in_any _ _ _ _).mono ?_; rintro e w1 ⟨rfl, rfl⟩) | (go_at_call 44; refine (l07Square_any _ _ (by omega)).mono ?_; rintro e w1 ⟨rfl, rfl⟩))
          go_ret
          exact ⟨ret_int HF.out.symm, rfl⟩
        · have HF : Hid (eqC d n = 6) := Lib.hid (by simp at h3; simp [eqC, h1, h2, h3, h4])
          go_enter Tryd.func21, Tryd.ntmps21
          go_wp2_with (first | (go_at_call 33; refine (in_any _ _ _ _).mono ?_; rintro e w1 ⟨rfl, rfl⟩) | (go_at_call 44; refine (l07Square_any _ _ (by omega)).mono ?_; rintro e w1 ⟨rfl, rfl⟩))
          go_ret
          exact ⟨ret_int HF.out.symm, rfl⟩
    · have HF : Hid (eqC d n = 2) := Lib.hid (by simp at h3; simp [eqC, h3])
      go_enter Tryd.func21, Tryd.ntmps21
      go_wp2_with (go_at_call 33; refine (in_any _ _ _ _).mono ?_; rintro e w1 ⟨rfl, rfl⟩)
      go_ret
      exact ⟨ret_int HF.out.symm, rfl⟩
/-- Is a pair a solution? -/
def isS (d n x y : Int) : Bool := pOk d x y && nrm d x y == n
theorem isSolution_any (d n x y : Int) (w : World) (hd : 2 ≤ d ∧ d ≤ 10000) :
    Calls Tryd.prog 39 #[.int .i64 d, .int .i64 n, .agg #[.int .i64 x, .int .i64 y]] w fun e w' => e = .returned (.bool (isS d n x y)) ∧ Below w.heap.size w w' := by
  cases hp : pOk d x y
  · go_enter Tryd.func39, Tryd.ntmps39
    go_wp2_with fail; refine (isPlainPair_any _ _ _ _ hd).mono ?_; rintro e w1 ⟨rfl, hb1⟩; obtain ⟨hc1, hf1, -, hB1⟩ := bcell hb1; have hz1 := hb1.size; (try simp at hz1); (try have hk1_0 : w.heap.size < w1.heap.size := by omega); (try have hk1_1 : w.heap.size + 1 < w1.heap.size := by omega); (try have hk1_2 : w.heap.size + 1 + 1 < w1.heap.size := by omega); (try have hk1_3 : w.heap.size + 1 + 1 + 1 < w1.heap.size := by omega); (try have hk1_4 : wr.heap.size < w1.heap.size := by omega); (try have hk1_5 : wr.heap.size + 1 < w1.heap.size := by omega)
    go_wp2_with fail
    go_ret
    exact ⟨ret_bool (by simp [isS, hp]), (by repeat' (first | (with_reducible exact Below.refl _ _) | (with_reducible assumption) | (with_reducible refine Below.setCell ?_ ?_ _) | (with_reducible refine Below.alloc ?_ ?_ _) | (with_reducible refine Below.drew ?_) | (with_reducible refine below_drewN ?_ _) | (with_reducible refine Below.trans ?_ (Below.mono (by with_reducible assumption) ?_)) | go_size | (simp at *; omega)))⟩
  · have HP := Lib.hid hp
    go_enter Tryd.func39, Tryd.ntmps39
    go_wp2_with fail; refine (isPlainPair_any _ _ _ _ hd).mono ?_; rintro e w1 ⟨rfl, hb1⟩; obtain ⟨hc1, hf1, -, hB1⟩ := bcell hb1; have hz1 := hb1.size; (try simp at hz1); (try have hk1_0 : w.heap.size < w1.heap.size := by omega); (try have hk1_1 : w.heap.size + 1 < w1.heap.size := by omega); (try have hk1_2 : w.heap.size + 1 + 1 < w1.heap.size := by omega); (try have hk1_3 : w.heap.size + 1 + 1 + 1 < w1.heap.size := by omega); (try have hk1_4 : wr.heap.size < w1.heap.size := by omega); (try have hk1_5 : wr.heap.size + 1 < w1.heap.size := by omega)
    go_wp2_with fail; refine (norm_any _ _ _ _ hd HP.out).mono ?_; rintro e w2 ⟨rfl, hb2⟩; obtain ⟨hc2, hf2, -, hB2⟩ := bcell hb2; have hz2 := hb2.size; (try simp at hz2); (try have hk2_0 : w.heap.size < w2.heap.size := by omega); (try have hk2_1 : w.heap.size + 1 < w2.heap.size := by omega); (try have hk2_2 : w.heap.size + 1 + 1 < w2.heap.size := by omega); (try have hk2_3 : w.heap.size + 1 + 1 + 1 < w2.heap.size := by omega); (try have hk2_4 : wr.heap.size < w2.heap.size := by omega); (try have hk2_5 : wr.heap.size + 1 < w2.heap.size := by omega); (try have hk2_6 : w1.heap.size < w2.heap.size := by omega); (try have hk2_7 : w1.heap.size + 1 < w2.heap.size := by omega)
    go_wp2_with fail
    go_ret
    exact ⟨ret_bool (by simp [isS, HP.out]), (by repeat' (first | (with_reducible exact Below.refl _ _) | (with_reducible assumption) | (with_reducible refine Below.setCell ?_ ?_ _) | (with_reducible refine Below.alloc ?_ ?_ _) | (with_reducible refine Below.drew ?_) | (with_reducible refine below_drewN ?_ _) | (with_reducible refine Below.trans ?_ (Below.mono (by with_reducible assumption) ?_)) | go_size | (simp at *; omega)))⟩
theorem l10Is_any (d n x y : Int) (w : World) (hd : 2 ≤ d ∧ d ≤ 10000) :
    Calls Tryd.prog 41 #[.int .i64 d, .int .i64 n, .agg #[.int .i64 x, .int .i64 y]] w fun e w' => e = .returned (.bool (isS d n x y)) ∧ Below w.heap.size w w' := by
  cases hp : pOk d x y
  · go_enter Tryd.func41, Tryd.ntmps41
    go_wp2_with fail; refine (l09Ok_any _ _ _ _ hd).mono ?_; rintro e w1 ⟨rfl, hb1⟩; obtain ⟨hc1, hf1, -, hB1⟩ := bcell hb1; have hz1 := hb1.size; (try simp at hz1); (try have hk1_0 : w.heap.size < w1.heap.size := by omega); (try have hk1_1 : w.heap.size + 1 < w1.heap.size := by omega); (try have hk1_2 : w.heap.size + 1 + 1 < w1.heap.size := by omega); (try have hk1_3 : w.heap.size + 1 + 1 + 1 < w1.heap.size := by omega); (try have hk1_4 : wr.heap.size < w1.heap.size := by omega); (try have hk1_5 : wr.heap.size + 1 < w1.heap.size := by omega)
    go_wp2_with fail
    go_ret
    exact ⟨ret_bool (by simp [isS, hp]), (by repeat' (first | (with_reducible exact Below.refl _ _) | (with_reducible assumption) | (with_reducible refine Below.setCell ?_ ?_ _) | (with_reducible refine Below.alloc ?_ ?_ _) | (with_reducible refine Below.drew ?_) | (with_reducible refine below_drewN ?_ _) | (with_reducible refine Below.trans ?_ (Below.mono (by with_reducible assumption) ?_)) | go_size | (simp at *; omega)))⟩
  · have HP := Lib.hid hp
    go_enter Tryd.func41, Tryd.ntmps41
    go_wp2_with fail; refine (l09Ok_any _ _ _ _ hd).mono ?_; rintro e w1 ⟨rfl, hb1⟩; obtain ⟨hc1, hf1, -, hB1⟩ := bcell hb1; have hz1 := hb1.size; (try simp at hz1); (try have hk1_0 : w.heap.size < w1.heap.size := by omega); (try have hk1_1 : w.heap.size + 1 < w1.heap.size := by omega); (try have hk1_2 : w.heap.size + 1 + 1 < w1.heap.size := by omega); (try have hk1_3 : w.heap.size + 1 + 1 + 1 < w1.heap.size := by omega); (try have hk1_4 : wr.heap.size < w1.heap.size := by omega); (try have hk1_5 : wr.heap.size + 1 < w1.heap.size := by omega)
    go_wp2_with fail; refine (l09Norm_any _ _ _ _ hd HP.out).mono ?_; rintro e w2 ⟨rfl, hb2⟩; obtain ⟨hc2, hf2, -, hB2⟩ := bcell hb2; have hz2 := hb2.size; (try simp at hz2); (try have hk2_0 : w.heap.size < w2.heap.size := by omega); (try have hk2_1 : w.heap.size + 1 < w2.heap.size := by omega); (try have hk2_2 : w.heap.size + 1 + 1 < w2.heap.size := by omega); (try have hk2_3 : w.heap.size + 1 + 1 + 1 < w2.heap.size := by omega); (try have hk2_4 : wr.heap.size < w2.heap.size := by omega); (try have hk2_5 : wr.heap.size + 1 < w2.heap.size := by omega); (try have hk2_6 : w1.heap.size < w2.heap.size := by omega); (try have hk2_7 : w1.heap.size + 1 < w2.heap.size := by omega)
    go_wp2_with fail
    go_ret
    exact ⟨ret_bool (by simp [isS, HP.out]), (by repeat' (first | (with_reducible exact Below.refl _ _) | (with_reducible assumption) | (with_reducible refine Below.setCell ?_ ?_ _) | (with_reducible refine Below.alloc ?_ ?_ _) | (with_reducible refine Below.drew ?_) | (with_reducible refine below_drewN ?_ _) | (with_reducible refine Below.trans ?_ (Below.mono (by with_reducible assumption) ?_)) | go_size | (simp at *; omega)))⟩
/-- Is a pair a solution of a fit equation? -/
def slR (d n x y : Int) : Bool := eqC d n == 0 && isS d n x y
theorem iIsSolution_any (d n x y : Int) (w : World) :
    Calls Tryd.prog 19 #[.int .i64 d, .int .i64 n, .agg #[.int .i64 x, .int .i64 y]] w fun e w' => e = .returned (.bool (slR d n x y)) ∧ Below w.heap.size w w' := by
  cases hc : (eqC d n == 0)
  · go_enter Tryd.func19, Tryd.ntmps19
    go_wp2_with (go_at_call 23; refine (checkEquation_any _ _ _).mono ?_; rintro e w1 ⟨rfl, rfl⟩)
    go_ret
    exact ⟨ret_bool (by simp [slR, hc]), (by repeat' (first | (with_reducible exact Below.refl _ _) | (with_reducible assumption) | (with_reducible refine Below.setCell ?_ ?_ _) | (with_reducible refine Below.alloc ?_ ?_ _) | (with_reducible refine Below.drew ?_) | (with_reducible refine below_drewN ?_ _) | (with_reducible refine Below.trans ?_ (Below.mono (by with_reducible assumption) ?_)) | go_size | (simp at *; omega)))⟩
  · have hd := (eqC_zero (by simpa using hc)).1.1
    go_enter Tryd.func19, Tryd.ntmps19
    go_wp2_with (go_at_call 23; refine (checkEquation_any _ _ _).mono ?_; rintro e w1 ⟨rfl, rfl⟩)
    go_wp2_with fail; refine (isSolution_any _ _ _ _ _ (by omega)).mono ?_; rintro e w1 ⟨rfl, hb1⟩; obtain ⟨hc1, hf1, -, hB1⟩ := bcell hb1; have hz1 := hb1.size; (try simp at hz1); (try have hk1_0 : w.heap.size < w1.heap.size := by omega); (try have hk1_1 : w.heap.size + 1 < w1.heap.size := by omega); (try have hk1_2 : w.heap.size + 1 + 1 < w1.heap.size := by omega); (try have hk1_3 : w.heap.size + 1 + 1 + 1 < w1.heap.size := by omega); (try have hk1_4 : wr.heap.size < w1.heap.size := by omega); (try have hk1_5 : wr.heap.size + 1 < w1.heap.size := by omega)
    go_wp2_with fail
    go_ret
    exact ⟨ret_bool (by simp [slR, hc]), (by repeat' (first | (with_reducible exact Below.refl _ _) | (with_reducible assumption) | (with_reducible refine Below.setCell ?_ ?_ _) | (with_reducible refine Below.alloc ?_ ?_ _) | (with_reducible refine Below.drew ?_) | (with_reducible refine below_drewN ?_ _) | (with_reducible refine Below.trans ?_ (Below.mono (by with_reducible assumption) ?_)) | go_size | (simp at *; omega)))⟩
theorem sIsSolution_any (d n x y : Int) (w : World) :
    Calls Tryd.prog 20 #[.int .i64 d, .int .i64 n, .agg #[.int .i64 x, .int .i64 y]] w fun e w' => e = .returned (.bool (slR d n x y)) ∧ Below w.heap.size w w' := by
  cases hc : (eqC d n == 0)
  · go_enter Tryd.func20, Tryd.ntmps20
    go_wp2_with (go_at_call 21; refine (l10Code_any _ _ _).mono ?_; rintro e w1 ⟨rfl, rfl⟩)
    go_ret
    exact ⟨ret_bool (by simp [slR, hc]), (by repeat' (first | (with_reducible exact Below.refl _ _) | (with_reducible assumption) | (with_reducible refine Below.setCell ?_ ?_ _) | (with_reducible refine Below.alloc ?_ ?_ _) | (with_reducible refine Below.drew ?_) | (with_reducible refine below_drewN ?_ _) | (with_reducible refine Below.trans ?_ (Below.mono (by with_reducible assumption) ?_)) | go_size | (simp at *; omega)))⟩
  · have hd := (eqC_zero (by simpa using hc)).1.1
    go_enter Tryd.func20, Tryd.ntmps20
    go_wp2_with (go_at_call 21; refine (l10Code_any _ _ _).mono ?_; rintro e w1 ⟨rfl, rfl⟩)
    go_wp2_with fail; refine (l10Is_any _ _ _ _ _ (by omega)).mono ?_; rintro e w1 ⟨rfl, hb1⟩; obtain ⟨hc1, hf1, -, hB1⟩ := bcell hb1; have hz1 := hb1.size; (try simp at hz1); (try have hk1_0 : w.heap.size < w1.heap.size := by omega); (try have hk1_1 : w.heap.size + 1 < w1.heap.size := by omega); (try have hk1_2 : w.heap.size + 1 + 1 < w1.heap.size := by omega); (try have hk1_3 : w.heap.size + 1 + 1 + 1 < w1.heap.size := by omega); (try have hk1_4 : wr.heap.size < w1.heap.size := by omega); (try have hk1_5 : wr.heap.size + 1 < w1.heap.size := by omega)
    go_wp2_with fail
    go_ret
    exact ⟨ret_bool (by simp [slR, hc]), (by repeat' (first | (with_reducible exact Below.refl _ _) | (with_reducible assumption) | (with_reducible refine Below.setCell ?_ ?_ _) | (with_reducible refine Below.alloc ?_ ?_ _) | (with_reducible refine Below.drew ?_) | (with_reducible refine below_drewN ?_ _) | (with_reducible refine Below.trans ?_ (Below.mono (by with_reducible assumption) ?_)) | go_size | (simp at *; omega)))⟩
end Go.Proofs.YtdbbjmcfpfalhaaDoor
