/- If an equation has a solution, it has one as near as a class needs; and what the searches find: the plain law. -/
import Derived.Test.YtdbbjmcfpfalhaaDoorLsN
import Derived.Test.YtdbbjmcfpfalhaaDoorEqF
namespace Go.Proofs.YtdbbjmcfpfalhaaDoor
open Go.ChangeShapes Go.WideShapes Go.ChangeAt Go.RowKit
set_option linter.unusedVariables false
set_option maxHeartbeats 1000000
theorem sq_le {a b : Int} (h0 : 0 ≤ a) (h : a ≤ b) : a * a ≤ b * b := Int.mul_le_mul h h h0 (by omega)
theorem desc_step {d n X Y x y : Int} (hd : 2 ≤ d) (hu : X * X - d * Y * Y = 1) (hX : 2 ≤ X) (hY : 1 ≤ Y) (hs : x * x - d * y * y = n) (hx : 0 ≤ x) (hy : 1 ≤ y) (hn : n ≠ 0)
    (hb1 : 0 < n → n * (X - 1) < 2 * d * (y * y)) (hb2 : n < 0 → -(n * (X + 1)) < 2 * d * (y * y)) : -y < y * X - x * Y ∧ y * X - x * Y < y := by
  have hyy : 0 < d * (y * y) := Int.mul_pos (by omega) (Int.mul_pos (by omega) (by omega))
  have hxx : x * x = n + d * (y * y) := by rw [← Int.mul_assoc]; omega
  have hYY : d * (Y * Y) = (X - 1) * (X + 1) := by
    have : (X - 1) * (X + 1) = X * X - 1 := by grind
    rw [this, ← Int.mul_assoc]; omega
  have hxY : 0 ≤ x * Y := Int.mul_nonneg hx (by omega)
  constructor
  · apply Classical.byContradiction
    intro hc
    have h1 : y * (X + 1) ≤ x * Y := by
      have : y * (X + 1) = y * X + y := by grind
      omega
    have h2 := sq_le (Int.mul_nonneg (by omega) (by omega)) h1
    have h3 := Int.mul_le_mul_of_nonneg_left h2 (by omega : 0 ≤ d)
    have e1 : d * (y * (X + 1) * (y * (X + 1))) = (d * (y * y) * (X + 1)) * (X + 1) := by grind
    have e2 : d * (x * Y * (x * Y)) = (x * x * (X - 1)) * (X + 1) := by
      have : d * (x * Y * (x * Y)) = (d * (Y * Y)) * (x * x) := by grind
      rw [this, hYY]; grind
    rw [e1, e2] at h3
    have h4 := Int.le_of_mul_le_mul_right h3 (by omega)
    rw [hxx] at h4
    have h5 : 2 * d * (y * y) ≤ n * (X - 1) := by
      have a1 : d * (y * y) * (X + 1) = d * (y * y) * X + d * (y * y) := by grind
      have a2 : (n + d * (y * y)) * (X - 1) = n * (X - 1) + d * (y * y) * X - d * (y * y) := by grind
      have a3 : 2 * d * (y * y) = 2 * (d * (y * y)) := by grind
      rw [a1, a2] at h4
      rw [a3]
      omega
    rcases Int.lt_or_gt_of_ne hn with h | h
    · have h6 : n * (X - 1) < 0 := Int.mul_neg_of_neg_of_pos h (by omega)
      have a3 : 2 * d * (y * y) = 2 * (d * (y * y)) := by grind
      omega
    · have := hb1 h
      omega
  · apply Classical.byContradiction
    intro hc
    have h1 : x * Y ≤ y * (X - 1) := by
      have : y * (X - 1) = y * X - y := by grind
      omega
    have h2 := sq_le hxY h1
    have h3 := Int.mul_le_mul_of_nonneg_left h2 (by omega : 0 ≤ d)
    have e1 : d * (y * (X - 1) * (y * (X - 1))) = (d * (y * y) * (X - 1)) * (X - 1) := by grind
    have e2 : d * (x * Y * (x * Y)) = (x * x * (X + 1)) * (X - 1) := by
      have : d * (x * Y * (x * Y)) = (d * (Y * Y)) * (x * x) := by grind
      rw [this, hYY]; grind
    rw [e1, e2] at h3
    have h4 := Int.le_of_mul_le_mul_right h3 (by omega)
    rw [hxx] at h4
    have h5 : n * (X + 1) + 2 * d * (y * y) ≤ 0 := by
      have a1 : d * (y * y) * (X - 1) = d * (y * y) * X - d * (y * y) := by grind
      have a2 : (n + d * (y * y)) * (X + 1) = n * (X + 1) + d * (y * y) * X + d * (y * y) := by grind
      have a3 : 2 * d * (y * y) = 2 * (d * (y * y)) := by grind
      rw [a1, a2] at h4
      rw [a3]
      omega
    have a3 : 2 * d * (y * y) = 2 * (d * (y * y)) := by grind
    rcases Int.lt_or_gt_of_ne hn with h | h
    · have := hb2 h
      omega
    · have h6 : 0 < n * (X + 1) := Int.mul_pos h (by omega)
      omega
theorem sqB_of {z a : Int} (h : z = a * a) (h0 : 0 ≤ a) (hz : z < 18446744073709551616) : sqB z = true := by
  have hz0 : 0 ≤ z := by rw [h]; exact Int.mul_nonneg h0 h0
  have h1 := rt_spec hz0 hz
  have h2 : rt z ≤ a := rt_le hz0 hz h0 (by rw [h]; have : (a + 1) * (a + 1) = a * a + 2 * a + 1 := by grind
                                            omega)
  have h3 : a ≤ rt z := root_le h0 h1.1 (by omega) h1.2.2
  have h4 : rt z = a := by omega
  unfold sqB
  rw [h4, decide_eq_true hz0, ← h]
  simp
theorem sqB_is {z : Int} (h : sqB z = true) : 0 ≤ z ∧ rt z * rt z = z := by
  simp only [sqB, Bool.and_eq_true, decide_eq_true_eq, beq_iff_eq] at h
  exact h
/-- How near a solution is at least. -/
theorem desc {d n X Y : Int} (hd : 2 ≤ d ∧ d ≤ 1000) (hn : -1000 ≤ n ∧ n ≤ 1000) (hn0 : n ≠ 0) (hu : nrm d X Y = 1) (hX : 2 ≤ X) (hX2 : X ≤ 1000000000) (hY : 1 ≤ Y) :
    ∀ k : Nat, k ≤ 100000 → sqB (zX d n k) = true → ∃ j : Nat, (j : Int) ≤ rt (mxV d n X) ∧ sqB (zX d n j) = true := by
  intro k
  induction k using Nat.strongRecOn with
  | _ k ih =>
    intro hk hs
    by_cases hle : (k : Int) ≤ rt (mxV d n X)
    · exact ⟨k, hle, hs⟩
    · obtain ⟨P1, P3, M, e1, e3, b1, b3, hM, hM0, hM1, hneg, hpos⟩ := lk_parts (by omega : 2 ≤ d ∧ d ≤ 10000) hn hn0 (X := X) (by omega)
      rw [hM] at hle
      have hr := rt_spec (n := M) hM0 (by omega)
      have hk2 : M < (k : Int) * k := by
        have := sq_le (a := rt M + 1) (b := k) (by omega) (by omega)
        omega
      have hdd : 0 < 2 * d := by omega
      have key : 2 * d * (M + 1) ≤ 2 * d * ((k : Int) * k) := Int.mul_le_mul_of_nonneg_left (by omega) (by omega)
      have hbb1 : 0 < n → n * (X - 1) < 2 * d * ((k : Int) * k) := by
        intro h
        have h1 := (hpos h).2
        have h0 : 0 ≤ P1 := by have := (lk_facts (by omega : 2 ≤ d ∧ d ≤ 10000) hn (X := X) (by omega)).2.2.2 (by omega); omega
        rw [Int.tdiv_eq_ediv_of_nonneg h0] at h1
        have h2 := Int.lt_ediv_add_one_mul_self P1 hdd
        rw [h1, Int.mul_comm] at h2
        omega
      have hbb2 : n < 0 → -(n * (X + 1)) < 2 * d * ((k : Int) * k) := by
        intro h
        have h1 := (hneg h).2
        have h0 : 0 ≤ -P3 := by have := (lk_facts (by omega : 2 ≤ d ∧ d ≤ 10000) hn (X := X) (by omega)).2.2.1 (by omega); omega
        rw [Int.tdiv_eq_ediv_of_nonneg h0] at h1
        have h2 := Int.lt_ediv_add_one_mul_self (-P3) hdd
        rw [h1, Int.mul_comm] at h2
        omega
      have hk1 : 1 ≤ (k : Int) := by omega
      obtain ⟨z0, z1⟩ := sqB_is hs
      have hrt := rt_nn (zX d n k)
      have hst : rt (zX d n k) * rt (zX d n k) - d * (k : Int) * k = n := by rw [z1]; unfold zX; omega
      generalize rt (zX d n k) = x at *
      unfold nrm at hu
      obtain ⟨g1, g2⟩ := desc_step hd.1 hu hX hY hst hrt hk1 hn0 hbb1 hbb2
      have hj : (k * X - x * Y).natAbs < k := by omega
      refine ih _ hj (by omega) ?_
      have hjj : (((k * X - x * Y).natAbs : Nat) : Int) * ((k * X - x * Y).natAbs : Nat) = (k * X - x * Y) * (k * X - x * Y) := by
        rw [← Int.natCast_mul, Int.natAbs_mul_self]
      have hz : zX d n ((k * X - x * Y).natAbs : Nat) = ((x * X - d * k * Y).natAbs : Int) * ((x * X - d * k * Y).natAbs : Int) := by
        rw [← Int.natCast_mul, Int.natAbs_mul_self]
        unfold zX
        rw [Int.mul_assoc, hjj, ← hst]
        have e : (x * X - d * k * Y) * (x * X - d * k * Y) - d * ((k * X - x * Y) * (k * X - x * Y)) = (x * x - d * k * k) * (X * X - d * Y * Y) := by grind
        rw [hu] at e
        omega
      have hb := (zX_b (y := (((k * X - x * Y).natAbs : Nat) : Int)) hd hn (by omega)).2.2
      exact sqB_of hz (by omega) (by omega)
theorem fiL_spec (d n : Int) : ∀ (k y : Nat), (∃ j, j < k ∧ sqB (zX d n ((y + j : Nat) : Int)) = true ∧ (∀ i, i < j → sqB (zX d n ((y + i : Nat) : Int)) = false) ∧ fiL d n k y = (rt (zX d n ((y + j : Nat) : Int)), ((y + j : Nat) : Int), 0)) ∨
    (fiL d n k y = (0, 0, 3) ∧ ∀ j, j < k → sqB (zX d n ((y + j : Nat) : Int)) = false) := by
  intro k
  induction k with
  | zero => intro y; right; exact ⟨rfl, fun j hj => by omega⟩
  | succ k ih =>
    intro y
    cases hs : sqB (zX d n y)
    · have e := fiL_no k hs
      have e1 : ((y : Int) + 1) = ((y + 1 : Nat) : Int) := by omega
      rw [e1] at e
      rcases ih (y + 1) with ⟨j, h1, h2, h3, h4⟩ | ⟨h1, h2⟩
      · left
        have ej : y + (j + 1) = y + 1 + j := by omega
        refine ⟨j + 1, by omega, by rw [ej]; exact h2, ?_, by rw [e, ej]; exact h4⟩
        intro i hi
        cases i with
        | zero => exact hs
        | succ i =>
          have ei : y + (i + 1) = y + 1 + i := by omega
          rw [ei]
          exact h3 i (by omega)
      · right
        refine ⟨by rw [e]; exact h1, fun j hj => ?_⟩
        cases j with
        | zero => exact hs
        | succ j =>
          have ej : y + (j + 1) = y + 1 + j := by omega
          rw [ej]
          exact h2 j (by omega)
    · left
      exact ⟨0, by omega, hs, fun i hi => by omega, by rw [fiL_yes k hs]; rfl⟩
theorem su_nil {d n : Int} : ∀ k : Nat, (∀ j, j < k → sqB (zX d n j) = false) → suF d n k = []
  | 0, _ => rfl
  | k + 1, h => by rw [su_no (h k (by omega))]; exact su_nil k (fun j hj => h j (by omega))
theorem su_head {d n : Int} {y0 : Nat} (h0 : sqB (zX d n y0) = true) (h1 : ∀ j, j < y0 → sqB (zX d n j) = false) : ∀ k, y0 < k → ∃ T, suF d n k = ⟨rt (zX d n y0), y0⟩ :: T
  | 0, h => by omega
  | k + 1, h => by
    by_cases hk : y0 = k
    · subst hk
      exact ⟨[], by rw [su_yes h0, su_nil _ h1]; rfl⟩
    · obtain ⟨T, hT⟩ := su_head h0 h1 k (by omega)
      cases hs : sqB (zX d n k)
      · exact ⟨T, by rw [su_no hs]; exact hT⟩
      · exact ⟨T ++ [⟨rt (zX d n k), k⟩], by rw [su_yes hs, hT]; rfl⟩
theorem su_sol {d n : Int} (hd : 2 ≤ d ∧ d ≤ 1000) (hn : -1000 ≤ n ∧ n ≤ 1000) : ∀ k : Nat, k ≤ 100001 → ∀ p ∈ suF d n k, isS d n p.x p.y = true
  | 0, _, p, hp => by simp [suF] at hp
  | k + 1, hk, p, hp => by
    cases hs : sqB (zX d n k)
    · rw [su_no hs] at hp
      exact su_sol hd hn k (by omega) p hp
    · rw [su_yes hs, List.mem_append, List.mem_singleton] at hp
      rcases hp with hp | rfl
      · exact su_sol hd hn k (by omega) p hp
      · have hpl := su_plain (y := (k : Int)) hd hn (by omega)
        have h2 := sqB_is hs
        simp only [isS, Bool.and_eq_true, beq_iff_eq]
        refine ⟨hpl, ?_⟩
        unfold nrm
        rw [h2.2]
        unfold zX
        omega
theorem least_y1 {d : Int} {D r n : Nat} (H : PerI d D r n) (h : (lsR d (cv D r n).x (cv D r n).y (odN n)).2.2 = true) : 1 ≤ (lsR d (cv D r n).x (cv D r n).y (odN n)).2.1 := by
  have hx := cv_x1 H n (Nat.le_refl _)
  have hy : 1 ≤ (cv D r n).y := by
    have h1 := (cv_mono H (k := 1) n H.per.n1 (Nat.le_refl _)).2
    rw [cv_one] at h1
    exact h1
  generalize (cv D r n).x = x at *
  generalize (cv D r n).y = y at *
  cases hp : pOk d x y with
  | false =>
    have e : lsR d x y (odN n) = (0, 0, false) := by unfold lsR; rw [hp]; rfl
    rw [e] at h
    cases h
  | true =>
    cases ho : odN n with
    | false =>
      have e : lsR d x y false = (x, y, true) := by unfold lsR; rw [hp]; rfl
      rw [e]
      exact hy
    | true =>
      rw [ho] at h
      cases hm : muB d x y x y with
      | false =>
        have e : lsR d x y true = ((muR d x y x y).1, (muR d x y x y).2, false) := by unfold lsR; rw [hp, hm]; rfl
        rw [e] at h
        cases h
      | true =>
        have e : lsR d x y true = (muX d x y x y, muY x y x y, true) := by unfold lsR muR; rw [hp, hm]; rfl
        rw [e]
        show 1 ≤ x * y + y * x
        have := Int.mul_le_mul hx hy (by omega) (by omega)
        have e2 : y * x = x * y := Int.mul_comm ..
        omega
/-- How far to look and the least solution: both packages, and what these mean. -/
theorem eq_all (d n : Int) : ∃ M k x y c : Int,
    (∀ w : World, Calls Tryd.prog 13 #[.int .i64 d, .int .i64 n] w fun e w' => e = .returned (.tuple #[.int .i64 M, .int .i64 k]) ∧ Below w.heap.size w w') ∧
    (∀ w : World, Calls Tryd.prog 35 #[.int .i64 d, .int .i64 n] w fun e w' => e = .returned (.tuple #[.int .i64 M, .int .i64 k]) ∧ Below w.heap.size w w') ∧
    (∀ w : World, Calls Tryd.prog 11 #[.int .i64 d, .int .i64 n] w fun e w' => e = .returned (.tuple #[.agg #[.int .i64 x, .int .i64 y], .int .i64 c]) ∧ Below w.heap.size w w') ∧
    (∀ w : World, Calls Tryd.prog 12 #[.int .i64 d, .int .i64 n] w fun e w' => e = .returned (.tuple #[.agg #[.int .i64 x, .int .i64 y], .int .i64 c]) ∧ Below w.heap.size w w') ∧
    (c = 0 → ∃ y0 : Nat, y = y0 ∧ x = rt (zX d n y0) ∧ sqB (zX d n y0) = true ∧ ∀ j, j < y0 → sqB (zX d n j) = false) ∧
    (c = 3 → ∀ j : Nat, j ≤ 100000 → sqB (zX d n j) = false) := by
  by_cases hc : eqC d n = 0
  · obtain ⟨⟨hd, hn, hn0⟩, hs⟩ := eqC_zero hc
    obtain ⟨D, r, m, H⟩ := perI_of hd.1 (by omega : d ≤ 10000) hs
    have HLs := lsOk_of H
    have HN := least_nrm H
    have HY := least_y1 H
    have LI := fun w => (leastPell_any d D r m H w).mono fun e w' h => (⟨_, _, h.1, fun _ => ⟨rfl, rfl⟩, h.2⟩ : RetLs (lsR d (cv D r m).x (cv D r m).y (odN m)).1 (lsR d (cv D r m).x (cv D r m).y (odN m)).2.1 (lsR d (cv D r m).x (cv D r m).y (odN m)).2.2 w e w')
    have LS := l09Least_any d D r m H
    generalize (lsR d (cv D r m).x (cv D r m).y (odN m)).1 = X at *
    generalize (lsR d (cv D r m).x (cv D r m).y (odN m)).2.1 = Y at *
    generalize (lsR d (cv D r m).x (cv D r m).y (odN m)).2.2 = ok at *
    have LKI := fun w => iLook_any d n X Y ok w hc HLs LI
    have LKS := fun w => l10Look_any d n X Y ok w hc HLs LS
    by_cases hk : (lkR d n X ok).2 = 0
    · obtain ⟨m0, m1⟩ := lkR_zero hk
      have hok : ok = true := by
        cases ok
        · rw [lkR_false] at hk; simp at hk
        · rfl
      have hN : (lkR d n X ok).1 = rt (mxV d n X) := by
        rw [hok, lkR_true] at hk ⊢
        split at hk
        · simp at hk
        · rename_i h; rw [if_neg h]
      rw [hk] at LKI LKS
      obtain ⟨N, hNN⟩ := Int.eq_ofNat_of_zero_le m0
      rw [hNN] at LKI LKS m1 hN
      refine ⟨N, 0, _, _, _, LKI, LKS, fun w => iLS_any d n N w hd hn (by omega) LKI, fun w => sLS_any d n N w hd hn (by omega) LKS, ?_, ?_⟩
      · rcases fiL_spec d n (N + 1) 0 with ⟨j, h1, h2, h3, h4⟩ | ⟨h1, h2⟩
        · have e0 : fiL d n (N + 1) 0 = fiL d n (N + 1) ((0 : Nat) : Int) := rfl
          rw [e0, h4]
          intro _
          exact ⟨0 + j, rfl, rfl, h2, fun i hi => by have := h3 i (by omega); rwa [Nat.zero_add] at this⟩
        · have e0 : fiL d n (N + 1) 0 = fiL d n (N + 1) ((0 : Nat) : Int) := rfl
          rw [e0, h1]
          intro h
          simp at h
      · rcases fiL_spec d n (N + 1) 0 with ⟨j, h1, h2, h3, h4⟩ | ⟨h1, h2⟩
        · have e0 : fiL d n (N + 1) 0 = fiL d n (N + 1) ((0 : Nat) : Int) := rfl
          rw [e0, h4]
          intro h
          simp at h
        · intro _ j hj
          cases hsj : sqB (zX d n j)
          · rfl
          · exfalso
            have hu := HN hok
            have hX1 := HLs.x1 hok
            have hY1 := HY hok
            have hpl := pOk_iff.1 (HLs.pl hok)
            have hX2 : 2 ≤ X := by
              unfold nrm at hu
              have h5 : 1 * 1 ≤ Y * Y := Int.mul_le_mul hY1 hY1 (by omega) (by omega)
              have h6 := Int.mul_le_mul_of_nonneg_left h5 (by omega : 0 ≤ d)
              have h7 : d * (Y * Y) = d * Y * Y := by rw [Int.mul_assoc]
              by_cases h8 : X = 1
              · rw [h8] at hu; omega
              · omega
            obtain ⟨j', h5, h6⟩ := desc hd hn hn0 hu hX2 (by omega) hY1 j hj hsj
            have h7 := h2 j' (by omega)
            rw [Nat.zero_add] at h7
            rw [h6] at h7
            cases h7
    · refine ⟨_, _, 0, 0, _, LKI, LKS, fun w => iLS_bad d n _ _ w hk LKI, fun w => sLS_bad d n _ _ w hk LKS, fun h => absurd h hk, fun h => ?_⟩
      exfalso
      unfold lkR at h
      split at h
      · split at h <;> simp at h
      · simp at h
  · refine ⟨0, eqC d n, 0, 0, eqC d n, fun w => look_bad d n w hc, fun w => lookS_bad d n w hc, fun w => iLS_bad d n _ _ w hc (fun w => look_bad d n w hc), fun w => sLS_bad d n _ _ w hc (fun w => lookS_bad d n w hc), fun h => absurd h hc, fun h => ?_⟩
    exfalso
    unfold eqC at h
    split at h
    · split at h <;> simp at h
    · simp at h
end Go.Proofs.YtdbbjmcfpfalhaaDoor
