/- Quadratic forms: discriminants, which forms are plain, values. -/
import Derived.Test.YtodbmnbahldabaaDoorGcd
import Derived.Test.YtodbmnbahldabaaDoorRoot
namespace Go.Proofs.YtodbmnbahldabaaDoor
open Go.ChangeShapes Go.WideShapes Go.ChangeAt Go.RowKit
set_option linter.unusedVariables false
set_option maxHeartbeats 1000000
/-- The discriminant. -/
def dF (a b c : Int) : Int := b * b - 4 * a * c
def inF (n : Int) : Bool := inR n (-10000) 10000
theorem inF_iff {n : Int} : inF n = true ↔ -10000 ≤ n ∧ n ≤ 10000 := inR_iff
/-- A plain form. -/
def vF (a b c : Int) : Bool := inF a && inF b && inF c && (gI (gI a b) c == 1) && !sqB (dF a b c) && (decide (0 < dF a b c) || decide (0 < a))
theorem mul_f {a b A B : Int} (ha : -A ≤ a ∧ a ≤ A) (hb : -B ≤ b ∧ b ≤ B) : -(A * B) ≤ a * b ∧ a * b ≤ A * B := by
  have hA : 0 ≤ A := by omega
  have hB : 0 ≤ B := by omega
  have h1 : (a * b).natAbs ≤ (A * B).natAbs := by
    rw [Int.natAbs_mul, Int.natAbs_mul]
    exact Nat.mul_le_mul (by omega) (by omega)
  have h2 : 0 ≤ A * B := Int.mul_nonneg hA hB
  omega
theorem dF_bounds {a b c : Int} (ha : -10000 ≤ a ∧ a ≤ 10000) (hb : -10000 ≤ b ∧ b ≤ 10000) (hc : -10000 ≤ c ∧ c ≤ 10000) :
    (0 ≤ b * b ∧ b * b ≤ 100000000) ∧ (-400000000 ≤ 4 * a * c ∧ 4 * a * c ≤ 400000000) := by
  have h1 := mul_f hb hb
  have h2 : 0 ≤ b * b := by
    rcases Int.lt_or_le b 0 with h | h
    · exact Int.mul_nonneg_of_nonpos_of_nonpos (by omega) (by omega)
    · exact Int.mul_nonneg h h
  have h3 := mul_f (a := 4 * a) (b := c) (A := 40000) (B := 10000) (by omega) hc
  exact ⟨⟨h2, by omega⟩, by omega, by omega⟩
theorem gI_bound (a b : Int) : gI a b ≤ ab a + ab b := by
  have ha := ab_nonneg a
  by_cases hb : b = 0
  · subst hb
    have : gI a 0 = ab a := by unfold gI ab Int.gcd; simp
    have h0 := ab_nonneg 0
    omega
  · have := gI_le (a := a) hb
    omega
theorem sqB_zero : sqB 0 = true := by
  have : rt 0 = 0 := rt_neg (by omega)
  unfold sqB
  rw [this]
  rfl
theorem sqB_neg {n : Int} (h : n < 0) : sqB n = false := by
  unfold sqB
  simp
  omega
theorem disc_any (a b c : Int) (w : World) (ha : -10000 ≤ a ∧ a ≤ 10000) (hb : -10000 ≤ b ∧ b ≤ 10000) (hc : -10000 ≤ c ∧ c ≤ 10000) :
    Calls Tryd.prog 52 #[.agg #[.int .i64 a, .int .i64 b, .int .i64 c]] w fun e w' => e = .returned (.int .i64 (dF a b c)) ∧ Below w.heap.size w w' := by
  obtain ⟨⟨m1, m2⟩, m3, m4⟩ := dF_bounds ha hb hc
  go_enter Tryd.func52, Tryd.ntmps52
  go_wp2
  go_ret
  exact ⟨rfl, (by repeat' (first | (with_reducible exact Below.refl _ _) | (with_reducible assumption) | (with_reducible refine Below.setCell ?_ ?_ _) | (with_reducible refine Below.alloc ?_ ?_ _) | (with_reducible refine Below.drew ?_) | (with_reducible refine below_drewN ?_ _) | (with_reducible refine Below.trans ?_ (Below.mono (by with_reducible assumption) ?_)) | go_size | (simp at *; omega)))⟩
theorem l11Disc_any (a b c : Int) (w : World) (ha : -10000 ≤ a ∧ a ≤ 10000) (hb : -10000 ≤ b ∧ b ≤ 10000) (hc : -10000 ≤ c ∧ c ≤ 10000) :
    Calls Tryd.prog 54 #[.agg #[.int .i64 a, .int .i64 b, .int .i64 c]] w fun e w' => e = .returned (.int .i64 (dF a b c)) ∧ Below w.heap.size w w' := by
  obtain ⟨⟨m1, m2⟩, m3, m4⟩ := dF_bounds ha hb hc
  go_enter Tryd.func54, Tryd.ntmps54
  go_wp2
  go_ret
  exact ⟨rfl, (by repeat' (first | (with_reducible exact Below.refl _ _) | (with_reducible assumption) | (with_reducible refine Below.setCell ?_ ?_ _) | (with_reducible refine Below.alloc ?_ ?_ _) | (with_reducible refine Below.drew ?_) | (with_reducible refine below_drewN ?_ _) | (with_reducible refine Below.trans ?_ (Below.mono (by with_reducible assumption) ?_)) | go_size | (simp at *; omega)))⟩
theorem validForm_any (a b c : Int) (w : World) :
    Calls Tryd.prog 48 #[.agg #[.int .i64 a, .int .i64 b, .int .i64 c]] w fun e w' => e = .returned (.bool (vF a b c)) ∧ Below w.heap.size w w' := by
  cases ha : inF a
  · have hv : vF a b c = false := by simp [vF, ha]
    unfold inF at ha
    go_enter Tryd.func48, Tryd.ntmps48
    go_wp2_with (go_at_call 29; refine (within_any _ _ _ _).mono ?_; rintro e w1 ⟨rfl, rfl⟩)
    go_ret
    exact ⟨ret_bool hv.symm, (by repeat' (first | (with_reducible exact Below.refl _ _) | (with_reducible assumption) | (with_reducible refine Below.setCell ?_ ?_ _) | (with_reducible refine Below.alloc ?_ ?_ _) | (with_reducible refine Below.drew ?_) | (with_reducible refine below_drewN ?_ _) | (with_reducible refine Below.trans ?_ (Below.mono (by with_reducible assumption) ?_)) | go_size | (simp at *; omega)))⟩
  · cases hb : inF b
    · have hv : vF a b c = false := by simp [vF, ha, hb]
      unfold inF at ha hb
      go_enter Tryd.func48, Tryd.ntmps48
      go_wp2_with (go_at_call 29; refine (within_any _ _ _ _).mono ?_; rintro e w1 ⟨rfl, rfl⟩)
      go_ret
      exact ⟨ret_bool hv.symm, (by repeat' (first | (with_reducible exact Below.refl _ _) | (with_reducible assumption) | (with_reducible refine Below.setCell ?_ ?_ _) | (with_reducible refine Below.alloc ?_ ?_ _) | (with_reducible refine Below.drew ?_) | (with_reducible refine below_drewN ?_ _) | (with_reducible refine Below.trans ?_ (Below.mono (by with_reducible assumption) ?_)) | go_size | (simp at *; omega)))⟩
    · cases hc : inF c
      · have hv : vF a b c = false := by simp [vF, ha, hb, hc]
        unfold inF at ha hb hc
        go_enter Tryd.func48, Tryd.ntmps48
        go_wp2_with (go_at_call 29; refine (within_any _ _ _ _).mono ?_; rintro e w1 ⟨rfl, rfl⟩)
        go_ret
        exact ⟨ret_bool hv.symm, (by repeat' (first | (with_reducible exact Below.refl _ _) | (with_reducible assumption) | (with_reducible refine Below.setCell ?_ ?_ _) | (with_reducible refine Below.alloc ?_ ?_ _) | (with_reducible refine Below.drew ?_) | (with_reducible refine below_drewN ?_ _) | (with_reducible refine Below.trans ?_ (Below.mono (by with_reducible assumption) ?_)) | go_size | (simp at *; omega)))⟩
      · have a1 := inF_iff.1 ha
        have b1 := inF_iff.1 hb
        have c1 := inF_iff.1 hc
        have d1 := dF_bounds a1 b1 c1
        have d2 : -500000000 ≤ dF a b c ∧ dF a b c ≤ 500000000 := by unfold dF; omega
        have g0 := gI_nonneg a b
        have g1 : gI a b ≤ 20000 := by
          have := gI_bound a b
          unfold ab at this
          omega
        have hv : vF a b c = ((gI (gI a b) c == 1) && !sqB (dF a b c) && (decide (0 < dF a b c) || decide (0 < a))) := by simp [vF, ha, hb, hc]
        unfold inF at ha hb hc
        have HD : Hid (dF a b c = dF a b c) := Lib.hid rfl
        have HV := Lib.hid hv
        clear hv d1
        go_enter Tryd.func48, Tryd.ntmps48
        go_wp2_with (first | (go_at_call 29; refine (within_any _ _ _ _).mono ?_; rintro e w1 ⟨rfl, rfl⟩) | (go_at_call 52; refine (disc_any _ _ _ _ a1 b1 c1).mono ?_; rintro e w1 ⟨rfl, hb1⟩; obtain ⟨hc1, hf1, -, hB1⟩ := bcell hb1; have hz1 := hb1.size; (try simp at hz1); (try have hk0 : w.heap.size < w1.heap.size := by omega); (try have hk1 : w.heap.size + 1 < w1.heap.size := by omega); (try have hk2 : w.heap.size + 1 + 1 < w1.heap.size := by omega)))
        have g2 := gI_nonneg (gI a b) c
        cases hg : (gI (gI a b) c == 1)
        · rw [hg] at HV
          go_quiet ((first | (go_at_call 68; exact quiet_free (gcd_any _ _ _ (by omega) (by omega) (by omega) (by omega))) | (go_at_call 58; exact quiet_left (isSquare_any _ _ (by omega)))))
          go_wp2
          go_ret
          exact ⟨ret_bool (by rw [HV.out]; rfl), (by repeat' (first | (with_reducible exact Below.refl _ _) | (with_reducible assumption) | (with_reducible refine Below.setCell ?_ ?_ _) | (with_reducible refine Below.alloc ?_ ?_ _) | (with_reducible refine Below.drew ?_) | (with_reducible refine below_drewN ?_ _) | (with_reducible refine Below.trans ?_ (Below.mono (by with_reducible assumption) ?_)) | go_size | (simp at *; omega)))⟩
        · rw [hg] at HV
          cases hs : sqB (dF a b c)
          · rw [hs] at HV
            by_cases hp : 0 < dF a b c
            · go_quiet ((first | (go_at_call 68; exact quiet_free (gcd_any _ _ _ (by omega) (by omega) (by omega) (by omega))) | (go_at_call 58; exact quiet_left (isSquare_any _ _ (by omega)))))
              go_wp2
              go_ret
              exact ⟨ret_bool (by rw [HV.out]; simp [hp]), (by repeat' (first | (with_reducible exact Below.refl _ _) | (with_reducible assumption) | (with_reducible refine Below.setCell ?_ ?_ _) | (with_reducible refine Below.alloc ?_ ?_ _) | (with_reducible refine Below.drew ?_) | (with_reducible refine below_drewN ?_ _) | (with_reducible refine Below.trans ?_ (Below.mono (by with_reducible assumption) ?_)) | go_size | (simp at *; omega)))⟩
            · go_quiet ((first | (go_at_call 68; exact quiet_free (gcd_any _ _ _ (by omega) (by omega) (by omega) (by omega))) | (go_at_call 58; exact quiet_left (isSquare_any _ _ (by omega)))))
              go_wp2
              go_ret
              exact ⟨ret_bool (by rw [HV.out, decide_eq_false (by omega : ¬ 0 < dF a b c)]; rfl), (by repeat' (first | (with_reducible exact Below.refl _ _) | (with_reducible assumption) | (with_reducible refine Below.setCell ?_ ?_ _) | (with_reducible refine Below.alloc ?_ ?_ _) | (with_reducible refine Below.drew ?_) | (with_reducible refine below_drewN ?_ _) | (with_reducible refine Below.trans ?_ (Below.mono (by with_reducible assumption) ?_)) | go_size | (simp at *; omega)))⟩
          · rw [hs] at HV
            go_quiet ((first | (go_at_call 68; exact quiet_free (gcd_any _ _ _ (by omega) (by omega) (by omega) (by omega))) | (go_at_call 58; exact quiet_left (isSquare_any _ _ (by omega)))))
            go_wp2
            go_ret
            exact ⟨ret_bool (by rw [HV.out]; rfl), (by repeat' (first | (with_reducible exact Below.refl _ _) | (with_reducible assumption) | (with_reducible refine Below.setCell ?_ ?_ _) | (with_reducible refine Below.alloc ?_ ?_ _) | (with_reducible refine Below.drew ?_) | (with_reducible refine below_drewN ?_ _) | (with_reducible refine Below.trans ?_ (Below.mono (by with_reducible assumption) ?_)) | go_size | (simp at *; omega)))⟩
theorem l11Ok_any (a b c : Int) (w : World) :
    Calls Tryd.prog 53 #[.agg #[.int .i64 a, .int .i64 b, .int .i64 c]] w fun e w' => e = .returned (.bool (vF a b c)) ∧ Below w.heap.size w w' := by
  cases ha : inF a
  · have hv : vF a b c = false := by simp [vF, ha]
    unfold inF at ha
    go_enter Tryd.func53, Tryd.ntmps53
    go_wp2_with (go_at_call 42; refine (in_any _ _ _ _).mono ?_; rintro e w1 ⟨rfl, rfl⟩)
    go_ret
    exact ⟨ret_bool hv.symm, (by repeat' (first | (with_reducible exact Below.refl _ _) | (with_reducible assumption) | (with_reducible refine Below.setCell ?_ ?_ _) | (with_reducible refine Below.alloc ?_ ?_ _) | (with_reducible refine Below.drew ?_) | (with_reducible refine below_drewN ?_ _) | (with_reducible refine Below.trans ?_ (Below.mono (by with_reducible assumption) ?_)) | go_size | (simp at *; omega)))⟩
  · cases hb : inF b
    · have hv : vF a b c = false := by simp [vF, ha, hb]
      unfold inF at ha hb
      go_enter Tryd.func53, Tryd.ntmps53
      go_wp2_with (go_at_call 42; refine (in_any _ _ _ _).mono ?_; rintro e w1 ⟨rfl, rfl⟩)
      go_ret
      exact ⟨ret_bool hv.symm, (by repeat' (first | (with_reducible exact Below.refl _ _) | (with_reducible assumption) | (with_reducible refine Below.setCell ?_ ?_ _) | (with_reducible refine Below.alloc ?_ ?_ _) | (with_reducible refine Below.drew ?_) | (with_reducible refine below_drewN ?_ _) | (with_reducible refine Below.trans ?_ (Below.mono (by with_reducible assumption) ?_)) | go_size | (simp at *; omega)))⟩
    · cases hc : inF c
      · have hv : vF a b c = false := by simp [vF, ha, hb, hc]
        unfold inF at ha hb hc
        go_enter Tryd.func53, Tryd.ntmps53
        go_wp2_with (go_at_call 42; refine (in_any _ _ _ _).mono ?_; rintro e w1 ⟨rfl, rfl⟩)
        go_ret
        exact ⟨ret_bool hv.symm, (by repeat' (first | (with_reducible exact Below.refl _ _) | (with_reducible assumption) | (with_reducible refine Below.setCell ?_ ?_ _) | (with_reducible refine Below.alloc ?_ ?_ _) | (with_reducible refine Below.drew ?_) | (with_reducible refine below_drewN ?_ _) | (with_reducible refine Below.trans ?_ (Below.mono (by with_reducible assumption) ?_)) | go_size | (simp at *; omega)))⟩
      · have a1 := inF_iff.1 ha
        have b1 := inF_iff.1 hb
        have c1 := inF_iff.1 hc
        have d1 := dF_bounds a1 b1 c1
        have d2 : -500000000 ≤ dF a b c ∧ dF a b c ≤ 500000000 := by unfold dF; omega
        have g0 := gI_nonneg (ab a) (ab b)
        have g1 : gI (ab a) (ab b) ≤ 20000 := by
          have := gI_bound (ab a) (ab b)
          unfold ab at this
          unfold ab
          omega
        have n0 := ab_nonneg a
        have n1 := ab_nonneg b
        have n2 := ab_nonneg c
        have n3 : ab a ≤ 10000 ∧ ab b ≤ 10000 ∧ ab c ≤ 10000 := by unfold ab; omega
        have eg : gI (gI (ab a) (ab b)) (ab c) = gI (gI a b) c := by
          rw [gI_ab]
          unfold gI ab Int.gcd
          simp
        have hv : vF a b c = (!sqB (dF a b c) && (decide (0 < dF a b c) || decide (0 < a)) && (gI (gI (ab a) (ab b)) (ab c) == 1)) := by
          rw [eg]
          simp [vF, ha, hb, hc]
          generalize (gI (gI a b) c == 1) = x
          generalize sqB (dF a b c) = y
          cases x <;> cases y <;> simp
        unfold inF at ha hb hc
        clear eg
        have HV := Lib.hid hv
        clear hv d1
        rcases Int.lt_trichotomy (dF a b c) 0 with hd | hd | hd
        · rw [sqB_neg hd, decide_eq_false (by omega : ¬ 0 < dF a b c)] at HV
          have hd1 : ¬ dF a b c = 0 := by omega
          have hd2 : ¬ 0 < dF a b c := by omega
          by_cases hp : 0 < a
          · have hn : ¬ a ≤ 0 := by omega
            go_enter Tryd.func53, Tryd.ntmps53
            go_wp2_with (first | (go_at_call 42; refine (in_any _ _ _ _).mono ?_; rintro e w1 ⟨rfl, rfl⟩) | (go_at_call 54; refine (l11Disc_any _ _ _ _ a1 b1 c1).mono ?_; rintro e w1 ⟨rfl, hb1⟩; obtain ⟨hc1, hf1, -, hB1⟩ := bcell hb1; have hz1 := hb1.size; (try simp at hz1); (try have hk0 : w.heap.size < w1.heap.size := by omega); (try have hk1 : w.heap.size + 1 < w1.heap.size := by omega); (try have hk2 : w.heap.size + 1 + 1 < w1.heap.size := by omega)) | (go_at_call 64; refine (l07Square_any _ _ (by omega)).mono ?_; rintro e w1 ⟨rfl, rfl⟩))
            go_quiet ((first | (go_at_call 66; exact quiet_left (size_any _ _ (by omega))) | (go_at_call 73; exact quiet_left (l02Gcd_any _ _ _ (by omega) (by omega) (by omega) (by omega)))))
            go_wp2
            go_ret
            exact ⟨ret_bool (by rw [HV.out]; simp [hp]), (by repeat' (first | (with_reducible exact Below.refl _ _) | (with_reducible assumption) | (with_reducible refine Below.setCell ?_ ?_ _) | (with_reducible refine Below.alloc ?_ ?_ _) | (with_reducible refine Below.drew ?_) | (with_reducible refine below_drewN ?_ _) | (with_reducible refine Below.trans ?_ (Below.mono (by with_reducible assumption) ?_)) | go_size | (simp at *; omega)))⟩
          · have hn : a ≤ 0 := by omega
            go_enter Tryd.func53, Tryd.ntmps53
            go_wp2_with (first | (go_at_call 42; refine (in_any _ _ _ _).mono ?_; rintro e w1 ⟨rfl, rfl⟩) | (go_at_call 54; refine (l11Disc_any _ _ _ _ a1 b1 c1).mono ?_; rintro e w1 ⟨rfl, hb1⟩; obtain ⟨hc1, hf1, -, hB1⟩ := bcell hb1; have hz1 := hb1.size; (try simp at hz1); (try have hk0 : w.heap.size < w1.heap.size := by omega); (try have hk1 : w.heap.size + 1 < w1.heap.size := by omega); (try have hk2 : w.heap.size + 1 + 1 < w1.heap.size := by omega)) | (go_at_call 64; refine (l07Square_any _ _ (by omega)).mono ?_; rintro e w1 ⟨rfl, rfl⟩))
            go_ret
            exact ⟨ret_bool (by rw [HV.out, decide_eq_false (by omega : ¬ 0 < a)]; rfl), (by repeat' (first | (with_reducible exact Below.refl _ _) | (with_reducible assumption) | (with_reducible refine Below.setCell ?_ ?_ _) | (with_reducible refine Below.alloc ?_ ?_ _) | (with_reducible refine Below.drew ?_) | (with_reducible refine below_drewN ?_ _) | (with_reducible refine Below.trans ?_ (Below.mono (by with_reducible assumption) ?_)) | go_size | (simp at *; omega)))⟩
        · rw [hd, sqB_zero] at HV
          go_enter Tryd.func53, Tryd.ntmps53
          go_wp2_with (first | (go_at_call 42; refine (in_any _ _ _ _).mono ?_; rintro e w1 ⟨rfl, rfl⟩) | (go_at_call 54; refine (l11Disc_any _ _ _ _ a1 b1 c1).mono ?_; rintro e w1 ⟨rfl, hb1⟩; obtain ⟨hc1, hf1, -, hB1⟩ := bcell hb1; have hz1 := hb1.size; (try simp at hz1); (try have hk0 : w.heap.size < w1.heap.size := by omega); (try have hk1 : w.heap.size + 1 < w1.heap.size := by omega); (try have hk2 : w.heap.size + 1 + 1 < w1.heap.size := by omega)) | (go_at_call 64; refine (l07Square_any _ _ (by omega)).mono ?_; rintro e w1 ⟨rfl, rfl⟩))
          go_ret
          exact ⟨ret_bool (by rw [HV.out]; rfl), (by repeat' (first | (with_reducible exact Below.refl _ _) | (with_reducible assumption) | (with_reducible refine Below.setCell ?_ ?_ _) | (with_reducible refine Below.alloc ?_ ?_ _) | (with_reducible refine Below.drew ?_) | (with_reducible refine below_drewN ?_ _) | (with_reducible refine Below.trans ?_ (Below.mono (by with_reducible assumption) ?_)) | go_size | (simp at *; omega)))⟩
        · have hd1 : ¬ dF a b c = 0 := by omega
          have hd2 : ¬ dF a b c < 0 := by omega
          have hd3 : (dF a b c < 0) = False := eq_false hd2
          have hd4 : (0 < dF a b c) = True := eq_true hd
          have hd5 : decide (dF a b c < 0) = false := decide_eq_false hd2
          cases hs : sqB (dF a b c)
          · rw [hs, decide_eq_true hd] at HV
            go_enter Tryd.func53, Tryd.ntmps53
            go_wp2_with (first | (go_at_call 42; refine (in_any _ _ _ _).mono ?_; rintro e w1 ⟨rfl, rfl⟩) | (go_at_call 54; refine (l11Disc_any _ _ _ _ a1 b1 c1).mono ?_; rintro e w1 ⟨rfl, hb1⟩; obtain ⟨hc1, hf1, -, hB1⟩ := bcell hb1; have hz1 := hb1.size; (try simp at hz1); (try have hk0 : w.heap.size < w1.heap.size := by omega); (try have hk1 : w.heap.size + 1 < w1.heap.size := by omega); (try have hk2 : w.heap.size + 1 + 1 < w1.heap.size := by omega)) | (go_at_call 64; refine (l07Square_any _ _ (by omega)).mono ?_; rintro e w1 ⟨rfl, rfl⟩))
            go_quiet ((first | (go_at_call 66; exact quiet_left (size_any _ _ (by omega))) | (go_at_call 73; exact quiet_left (l02Gcd_any _ _ _ (by omega) (by omega) (by omega) (by omega)))))
            go_wp2
            go_ret
            exact ⟨ret_bool (by rw [HV.out]; rfl), (by repeat' (first | (with_reducible exact Below.refl _ _) | (with_reducible assumption) | (with_reducible refine Below.setCell ?_ ?_ _) | (with_reducible refine Below.alloc ?_ ?_ _) | (with_reducible refine Below.drew ?_) | (with_reducible refine below_drewN ?_ _) | (with_reducible refine Below.trans ?_ (Below.mono (by with_reducible assumption) ?_)) | go_size | (simp at *; omega)))⟩
          · rw [hs] at HV
            go_enter Tryd.func53, Tryd.ntmps53
            go_wp2_with (first | (go_at_call 42; refine (in_any _ _ _ _).mono ?_; rintro e w1 ⟨rfl, rfl⟩) | (go_at_call 54; refine (l11Disc_any _ _ _ _ a1 b1 c1).mono ?_; rintro e w1 ⟨rfl, hb1⟩; obtain ⟨hc1, hf1, -, hB1⟩ := bcell hb1; have hz1 := hb1.size; (try simp at hz1); (try have hk0 : w.heap.size < w1.heap.size := by omega); (try have hk1 : w.heap.size + 1 < w1.heap.size := by omega); (try have hk2 : w.heap.size + 1 + 1 < w1.heap.size := by omega)) | (go_at_call 64; refine (l07Square_any _ _ (by omega)).mono ?_; rintro e w1 ⟨rfl, rfl⟩))
            go_ret
            exact ⟨ret_bool (by rw [HV.out]; rfl), (by repeat' (first | (with_reducible exact Below.refl _ _) | (with_reducible assumption) | (with_reducible refine Below.setCell ?_ ?_ _) | (with_reducible refine Below.alloc ?_ ?_ _) | (with_reducible refine Below.drew ?_) | (with_reducible refine below_drewN ?_ _) | (with_reducible refine Below.trans ?_ (Below.mono (by with_reducible assumption) ?_)) | go_size | (simp at *; omega)))⟩
theorem toForm_any (a b c : Int) (w : World) :
    Calls Tryd.prog 6 #[.agg #[.int .i64 a, .int .i64 b, .int .i64 c]] w fun e w' => e = .returned (.agg #[.int .i64 a, .int .i64 b, .int .i64 c]) ∧ Below w.heap.size w w' := by
  go_enter Tryd.func6, Tryd.ntmps6
  go_wp2
  go_returns
  exact ⟨rfl, (by repeat' (first | (with_reducible exact Below.refl _ _) | (with_reducible assumption) | (with_reducible refine Below.setCell ?_ ?_ _) | (with_reducible refine Below.alloc ?_ ?_ _) | (with_reducible refine Below.drew ?_) | (with_reducible refine below_drewN ?_ _) | (with_reducible refine Below.trans ?_ (Below.mono (by with_reducible assumption) ?_)) | go_size | (simp at *; omega)))⟩
end Go.Proofs.YtodbmnbahldabaaDoor
