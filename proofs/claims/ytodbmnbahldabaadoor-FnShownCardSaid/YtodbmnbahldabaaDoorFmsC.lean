/- All reduced forms of a discriminant: the reference. -/
import Derived.Test.YtodbmnbahldabaaDoorFmsB
namespace Go.Proofs.YtodbmnbahldabaaDoor
open Go.ChangeShapes Go.WideShapes Go.ChangeAt Go.RowKit
set_option linter.unusedVariables false
set_option maxHeartbeats 1000000
def tstF (d a b : Int) : List Fm :=
  if ((b * b - d).tmod (4 * a) != 0) = true then [] else if (vF a b ((b * b - d).tdiv (4 * a)) && redF a b ((b * b - d).tdiv (4 * a))) = true then [⟨a, b, (b * b - d).tdiv (4 * a)⟩] else []
def innF (d m a : Int) : Nat → List Fm
  | 0 => []
  | j + 1 => innF d m a j ++ tstF d a (-m + j)
def outF (d m : Int) : Nat → List Fm
  | 0 => []
  | i + 1 => outF d m i ++ (if -m + (i : Int) = 0 then [] else innF d m (-m + i) (2 * m + 1).toNat)
/-- All reduced forms with a discriminant, by their first number, then by their second. -/
def allF (d : Int) : List Fm := outF d (rt (ab d)) (2 * rt (ab d) + 1).toNat
theorem tstF_len (d a b : Int) : (tstF d a b).length ≤ 1 := by
  unfold tstF
  split
  · simp
  · split <;> simp
theorem innF_len (d m a : Int) (j : Nat) : (innF d m a j).length ≤ j := by
  induction j with
  | zero => simp [innF]
  | succ j ih =>
    have := tstF_len d a (-m + j)
    unfold innF
    rw [List.length_append]
    omega
theorem outF_len (d m : Int) (i : Nat) : (outF d m i).length ≤ i * (2 * m + 1).toNat := by
  induction i with
  | zero => simp [outF]
  | succ i ih =>
    unfold outF
    rw [List.length_append, Nat.add_mul]
    split
    · simp; omega
    · have := innF_len d m (-m + i) (2 * m + 1).toNat
      omega
theorem tst_no {d a b : Int} (h : ((b * b - d).tmod (4 * a) != 0) = true) : tstF d a b = [] := by unfold tstF; rw [if_pos h]
theorem tst_bad {d a b C : Int} (h : ((b * b - d).tmod (4 * a) != 0) = false) (e : (b * b - d).tdiv (4 * a) = C) (hv : (vF a b C && redF a b C) = false) : tstF d a b = [] := by
  unfold tstF; rw [h, if_neg (by simp), e, hv, if_neg (by simp)]
theorem tst_yes {d a b C : Int} (h : ((b * b - d).tmod (4 * a) != 0) = false) (e : (b * b - d).tdiv (4 * a) = C) (hv : (vF a b C && redF a b C) = true) : tstF d a b = [⟨a, b, C⟩] := by
  unfold tstF; rw [h, if_neg (by simp), e, if_pos hv]
theorem tdiv_le (x y : Int) : -(ab x) ≤ x.tdiv y ∧ x.tdiv y ≤ ab x := by
  have h : (x.tdiv y).natAbs ≤ x.natAbs := by
    rw [Int.natAbs_tdiv]
    exact Nat.div_le_self _ _
  unfold ab
  omega
theorem sq44 {b : Int} (h : -44 ≤ b ∧ b ≤ 44) : 0 ≤ b * b ∧ b * b ≤ 1936 := by
  refine ⟨sq_nonneg b, ?_⟩
  have := sq_le_of_ab (x := b) (m := 44) (by omega) (by omega)
  omega
theorem rt44 {d : Int} (h : -2000 ≤ d ∧ d ≤ 2000) : 0 ≤ rt (ab d) ∧ rt (ab d) ≤ 44 := by
  have : 0 ≤ ab d ∧ ab d ≤ 2000 := by unfold ab; omega
  exact ⟨(rt_spec this.1 (by omega)).1, rt_le this.1 (by omega) (by omega) (by omega)⟩
/-- The code of a discriminant. -/
def codeF (d : Int) : Int := if inR d (-2000) 2000 = true then (if (sqB d || decide (1 < d % 4)) = true then 6 else 0) else 2
theorem l11Code_any (d : Int) (w : World) :
    Calls Tryd.prog 46 #[.int .i64 d] w fun e w' => e = .returned (.int .i64 (codeF d)) ∧ w = w' := by
  cases hr : inR d (-2000) 2000
  · have HF : Hid (codeF d = 2) := Lib.hid (by simp [codeF, hr])
    go_enter Tryd.func46, Tryd.ntmps46
    go_wp2_with (go_at_call 42; refine (in_any _ _ _ _).mono ?_; rintro e w1 ⟨rfl, rfl⟩)
    go_ret
    exact ⟨ret_int HF.out.symm, rfl⟩
  · have hb := inR_iff.1 hr
    have HF : Hid (codeF d = if (sqB d || decide (1 < d % 4)) = true then 6 else 0) := Lib.hid (by simp [codeF, hr])
    by_cases hd : 0 ≤ d
    · cases hs : sqB d
      · go_enter Tryd.func46, Tryd.ntmps46
        go_wp2_with (first | (go_at_call 42; refine (in_any _ _ _ _).mono ?_; rintro e w1 ⟨rfl, rfl⟩) | (go_at_call 64; refine (l07Square_any _ _ (by omega)).mono ?_; rintro e w1 ⟨rfl, rfl⟩) | (go_at_call 65; refine (l02Mod_any _ _ _ (by omega) (by omega)).mono ?_; rintro e w1 ⟨rfl, rfl⟩))
        all_goals
          go_ret
          exact ⟨ret_int (by rw [HF.out, hs]; simp; omega), rfl⟩
      · go_enter Tryd.func46, Tryd.ntmps46
        go_wp2_with (first | (go_at_call 42; refine (in_any _ _ _ _).mono ?_; rintro e w1 ⟨rfl, rfl⟩) | (go_at_call 64; refine (l07Square_any _ _ (by omega)).mono ?_; rintro e w1 ⟨rfl, rfl⟩) | (go_at_call 65; refine (l02Mod_any _ _ _ (by omega) (by omega)).mono ?_; rintro e w1 ⟨rfl, rfl⟩))
        go_ret
        exact ⟨ret_int (by rw [HF.out, hs]; rfl), rfl⟩
    · have hs : sqB d = false := sqB_neg (by omega)
      have hd' : (0 ≤ d) = False := eq_false hd
      go_enter Tryd.func46, Tryd.ntmps46
      go_wp2_with (first | (go_at_call 42; refine (in_any _ _ _ _).mono ?_; rintro e w1 ⟨rfl, rfl⟩) | (go_at_call 64; refine (l07Square_any _ _ (by omega)).mono ?_; rintro e w1 ⟨rfl, rfl⟩) | (go_at_call 65; refine (l02Mod_any _ _ _ (by omega) (by omega)).mono ?_; rintro e w1 ⟨rfl, rfl⟩))
      all_goals
        go_ret
        exact ⟨ret_int (by rw [HF.out, hs]; simp; omega), rfl⟩
end Go.Proofs.YtodbmnbahldabaaDoor
