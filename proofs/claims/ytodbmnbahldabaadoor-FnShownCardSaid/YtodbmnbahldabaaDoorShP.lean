/- Plain laws of represented numbers: the told numbers give the value, the counts are even and are nought where nothing is told. -/
import Derived.Test.YtodbmnbahldabaaDoorRepH
namespace Go.Proofs.YtodbmnbahldabaaDoor
open Go.ChangeShapes Go.WideShapes Go.ChangeAt Go.RowKit
set_option linter.unusedVariables false
set_option maxHeartbeats 1000000
set_option maxRecDepth 20000
theorem mem_plT {a t x : Int} (h : x ∈ plT a t) : t = 2 * a * x := by
  unfold plT at h
  split at h
  · rename_i h1
    rw [List.mem_singleton] at h
    have h2 : t.tmod (2 * a) = 0 := by simpa using h1
    have h3 := Int.mul_tdiv_add_tmod t (2 * a)
    rw [h2] at h3
    rw [h]
    omega
  · simp at h
theorem sqB_yes {z : Int} (h : sqB z = true) : 0 ≤ z ∧ rt z * rt z = z := by
  unfold sqB at h
  simpa using h
theorem mem_plF {a b c n y x : Int} (h : x ∈ plF a b c n y) : ∃ r, 0 ≤ r ∧ r * r = zS' a b c n y ∧ (2 * a * x = -b * y + r ∨ 2 * a * x = -b * y - r) := by
  unfold plF at h
  split at h
  · rename_i h1
    obtain ⟨h2, h3⟩ := sqB_yes h1
    refine ⟨rt (zS' a b c n y), Int.natCast_nonneg _, h3, ?_⟩
    rcases List.mem_append.1 h with h4 | h4
    · exact .inl (mem_plT h4).symm
    · split at h4
      · exact .inr (mem_plT h4).symm
      · simp at h4
  · simp at h
theorem pl_value {a b c n y x : Int} (ha : a ≠ 0) (h : x ∈ plF a b c n y) : vA a b c x y = n := by
  obtain ⟨r, r0, r1, r2⟩ := mem_plF h
  have e : (2 * a * x + b * y) * (2 * a * x + b * y) = r * r := by
    rcases r2 with h1 | h1
    · have : 2 * a * x + b * y = r := by rw [h1, Int.neg_mul]; omega
      rw [this]
    · have : 2 * a * x + b * y = -r := by rw [h1, Int.neg_mul]; omega
      rw [this, Int.neg_mul_neg]
  rw [r1] at e
  unfold zS' dF at e
  have e2 : 4 * a * vA a b c x y = 4 * a * n := by
    unfold vA
    grind
  exact Int.eq_of_mul_eq_mul_left (by omega) e2
theorem rp_yes_spec {a b c n : Int} : ∀ (k y0 : Nat) (x y : Int), rpF a b c n k y0 = (x, y, true) → ∃ y' : Nat, y0 ≤ y' ∧ y' < y0 + k ∧ y = y' ∧ x ∈ plF a b c n y' := by
  intro k
  induction k with
  | zero => intro y0 x y h; simp [rpF] at h
  | succ k ih =>
    intro y0 x y h
    rcases hL : plF a b c n y0 with _ | ⟨t, L⟩
    · rw [rp_no hL] at h
      obtain ⟨y', h1, h2, h3, h4⟩ := ih _ _ _ h
      exact ⟨y', by omega, by omega, h3, h4⟩
    · rw [rp_yes hL] at h
      simp only [Prod.mk.injEq, and_true] at h
      refine ⟨y0, by omega, by omega, h.2.symm, ?_⟩
      rw [hL, ← h.1]
      exact List.mem_cons_self
theorem rp_no_spec {a b c n : Int} : ∀ (k y0 : Nat), okOf (rpF a b c n k y0) = false ↔ ∀ y' : Nat, y0 ≤ y' → y' < y0 + k → plF a b c n y' = [] := by
  intro k
  induction k with
  | zero =>
    intro y0
    constructor
    · intro _ y' h1 h2; omega
    · intro _; rfl
  | succ k ih =>
    intro y0
    rcases hL : plF a b c n y0 with _ | ⟨t, L⟩
    · rw [rp_no hL, ih]
      constructor
      · intro h y' h1 h2
        rcases Nat.lt_or_ge y0 y' with h3 | h3
        · exact h y' (by omega) (by omega)
        · have e : y' = y0 := by omega
          rw [e]; exact hL
      · intro h y' h1 h2
        exact h y' (by omega) (by omega)
    · rw [rp_yes hL]
      constructor
      · intro h; simp [okOf] at h
      · intro h
        have := h y0 (by omega) (by omega)
        rw [hL] at this
        simp at this
theorem cS_zero {f : Int → Int} (hf : ∀ y, 0 ≤ f y ∧ f y ≤ 2) (m : Nat) : cS f m = 0 ↔ ∀ y : Nat, y ≤ m → f y = 0 := by
  induction m with
  | zero =>
    constructor
    · intro h y hy
      have e : y = 0 := by omega
      subst e
      exact h
    · intro h; exact h 0 (by omega)
  | succ m ih =>
    have h1 := cS_b hf m
    have h2 := hf ((m + 1 : Nat) : Int)
    have e : cS f (m + 1) = cS f m + 2 * f ((m + 1 : Nat) : Int) := rfl
    rw [e]
    constructor
    · intro h y hy
      rcases Nat.lt_or_ge m y with h3 | h3
      · have e : y = m + 1 := by omega
        rw [e]; omega
      · exact ih.1 (by omega) y h3
    · intro h
      have := ih.2 (fun y hy => h y (by omega))
      have := h (m + 1) (by omega)
      omega
theorem cr_zero (a b c n : Int) (m : Nat) : cS (plN a b c n) m = 0 ↔ okOf (rpF a b c n (m + 1) 0) = false := by
  rw [cS_zero (plN_b a b c n), rp_no_spec]
  constructor
  · intro h y' _ h2
    have := h y' (by omega)
    unfold plN at this
    exact List.eq_nil_of_length_eq_zero (by omega)
  · intro h y hy
    unfold plN
    rw [h y (by omega) (by omega)]
    rfl
theorem cS_even {f : Int → Int} (h : f 0 % 2 = 0) (m : Nat) : cS f m % 2 = 0 := by
  induction m with
  | zero => exact h
  | succ m ih =>
    have e : cS f (m + 1) = cS f m + 2 * f ((m + 1 : Nat) : Int) := rfl
    rw [e]
    omega
theorem plN_zero {a b c n : Int} (ha : 0 < a) (hn : 0 < n) : plN a b c n 0 % 2 = 0 := by
  have hz : zS' a b c n 0 = 4 * a * n := by unfold zS'; simp
  have hp : 0 < 4 * a * n := Int.mul_pos (by omega) hn
  unfold plN plF
  rw [hz]
  split
  · rename_i h
    obtain ⟨h1, h2⟩ := sqB_yes h
    have hr : 0 < rt (4 * a * n) := by
      have : 0 ≤ rt (4 * a * n) := Int.natCast_nonneg _
      rcases Int.lt_or_le 0 (rt (4 * a * n)) with h3 | h3
      · exact h3
      · have e : rt (4 * a * n) = 0 := by omega
        rw [e] at h2
        omega
    rw [if_pos hr]
    generalize rt (4 * a * n) = r at *
    have e1 : -b * 0 + r = r := by simp
    have e2 : -b * 0 - r = -r := by simp
    rw [e1, e2, List.length_append, plT_neg]
    omega
  · rfl
/-- A form that is drawn: definite ones are small, or have a great first number and small others. -/
def BentP (a b c : Int) : Prop := vF a b c = true → dF a b c < 0 → (-20 ≤ b ∧ b ≤ 20) ∧ (a ≤ 20 ∨ a = 10000)
theorem le_of_sq {x m : Int} (hm : 0 ≤ m) (h : x * x < (m + 1) * (m + 1)) : -m ≤ x ∧ x ≤ m := by
  have e : ab x ≤ m := by
    rcases Int.lt_or_le m (ab x) with h1 | h1
    · have := Int.mul_le_mul (show m + 1 ≤ ab x by omega) (show m + 1 ≤ ab x by omega) (by omega) (ab_nonneg x)
      rw [ab_sq] at this
      omega
    · exact h1
  unfold ab at e
  omega
theorem pl_bound {a b c n y x : Int} (hv : vF a b c = true) (hd : dF a b c < 0) (hn : 1 ≤ n ∧ n ≤ 10000) (hp : BentP a b c) (h : x ∈ plF a b c n y) : (-10000 ≤ x ∧ x ≤ 10000) ∧ (-10000 ≤ y ∧ y ≤ 10000) := by
  obtain ⟨hb, ha⟩ := hp hv hd
  obtain ⟨c0, a0⟩ := vF_cpos hv hd
  obtain ⟨r, r0, r1, r2⟩ := mem_plF h
  unfold zS' at r1
  have hrr := sq_nonneg r
  have hyy := sq_nonneg y
  have e1 : dF a b c * y * y = dF a b c * (y * y) := Int.mul_assoc ..
  rw [e1] at r1
  have hx : ∀ A : Int, 0 < A → A * ab x ≤ 20 * ab y + r → (ab x ≤ (20 * ab y + r)) := by
    intro A hA h1
    have := Int.mul_le_mul_of_nonneg_right (show 1 ≤ A by omega) (ab_nonneg x)
    omega
  have hby : ab (b * y) ≤ 20 * ab y := by
    rw [ab_mul]
    exact Int.mul_le_mul_of_nonneg_right (by unfold ab; omega) (ab_nonneg y)
  have h2a : 2 * a * ab x ≤ 20 * ab y + r := by
    have e : ab (2 * a * x) = 2 * a * ab x := by
      rw [ab_mul, ab_mul, ab_pos (show 0 ≤ a by omega)]
      rfl
    rw [← e]
    have e3 : -b * y = -(b * y) := Int.neg_mul ..
    rw [e3] at r2
    generalize 2 * a * x = T at *
    generalize b * y = U at *
    unfold ab at *
    omega
  rcases ha with ha | ha
  · have m1 := Int.mul_le_mul (show 4 * a ≤ 80 by omega) hn.2 (by omega) (by omega)
    have d1 : dF a b c * (y * y) ≤ -(y * y) := by
      have := Int.mul_le_mul_of_nonneg_right (show dF a b c ≤ -1 by omega) hyy
      omega
    have hy := le_of_sq (x := y) (m := 894) (by omega) (by omega)
    have d2 : dF a b c * (y * y) ≤ 0 := by omega
    have hr := le_of_sq (x := r) (m := 894) (by omega) (by omega)
    have ha2 := Int.mul_le_mul_of_nonneg_right (show 2 ≤ 2 * a by omega) (ab_nonneg x)
    have hy2 : ab y ≤ 894 := by unfold ab; omega
    have hx2 : ab x ≤ 9387 := by omega
    unfold ab at hx2
    omega
  · have m1 : 4 * a * n ≤ 400000000 := by rw [ha]; omega
    have hdd : dF a b c ≤ -39600 := by
      have e : dF a b c = b * b - 4 * a * c := rfl
      have h1 := sq_le_of_ab (x := b) (m := 20) (by omega) (by omega)
      have h3 : 4 * a * c = 40000 * c := by rw [ha]; omega
      omega
    have d1 : dF a b c * (y * y) ≤ -39600 * (y * y) := Int.mul_le_mul_of_nonneg_right hdd hyy
    have hy := le_of_sq (x := y) (m := 101) (by omega) (by omega)
    have d2 : dF a b c * (y * y) ≤ 0 := by omega
    have hr := le_of_sq (x := r) (m := 20000) (by omega) (by omega)
    have hy2 : ab y ≤ 101 := by unfold ab; omega
    rw [ha] at h2a
    have hx2 : ab x ≤ 10000 := by have := ab_nonneg x; omega
    unfold ab at hx2
    omega
/-- All that the law asks of one form and one number. -/
theorem sh_all {a b c n : Int} (hp : BentP a b c) : ∃ x y code count c2, repR a b c n = (x, y, code) ∧ crR a b c n = (count, c2) ∧ (-1000000000 ≤ x ∧ x ≤ 1000000000) ∧ (-1000000000 ≤ y ∧ y ≤ 1000000000) ∧
    (c2 = 0 → count.tmod 2 = 0 ∧ (count == 0) = (code == 3)) ∧ (code = 0 → vF a b c = true ∧ aR a b c x y = (n, 0)) := by
  by_cases hc : chS a b c (inR n 1 10000) = 0
  · obtain ⟨hv, hf, hd⟩ := chS_zero hc
    have hn := inR_iff.1 hf
    have a0 := (vF_cpos hv hd).2
    rcases hr : rpR a b c n with ⟨x, y, ok⟩
    have hcr : crR a b c n = (cS (plN a b c n) (hiY a b c n).toNat, 0) := by unfold crR; rw [if_pos hc]
    have hev := cS_even (plN_zero (a := a) (b := b) (c := c) (n := n) a0 (by omega)) (hiY a b c n).toNat
    have hnn := (cS_b (plN_b a b c n) (hiY a b c n).toNat).1
    have hz := cr_zero a b c n (hiY a b c n).toNat
    have hok : okOf (rpF a b c n ((hiY a b c n).toNat + 1) 0) = ok := by
      have : rpF a b c n ((hiY a b c n).toNat + 1) 0 = (x, y, ok) := hr
      rw [this]
      rfl
    rw [hok] at hz
    have htm : (cS (plN a b c n) (hiY a b c n).toNat).tmod 2 = 0 := by rw [Int.tmod_eq_emod_of_nonneg hnn]; exact hev
    generalize cS (plN a b c n) (hiY a b c n).toNat = C at *
    cases ok
    · refine ⟨0, 0, 3, C, 0, by unfold repR; rw [if_pos hc, hr]; rfl, hcr, by omega, by omega, fun _ => ⟨htm, ?_⟩, fun h => by simp at h⟩
      rw [hz.2 rfl]
      rfl
    · obtain ⟨y', y1, y2, rfl, hm⟩ := rp_yes_spec _ _ _ _ (show rpF a b c n ((hiY a b c n).toNat + 1) 0 = (x, y, true) from hr)
      have hb := pl_bound hv hd hn hp hm
      have hval := pl_value (by omega) hm
      refine ⟨x, y', 0, C, 0, by unfold repR; rw [if_pos hc, hr]; rfl, hcr, by omega, by omega, fun _ => ⟨htm, ?_⟩, fun _ => ⟨hv, ?_⟩⟩
      · have : C ≠ 0 := fun h => by have := hz.1 h; simp at this
        simp [this]
      · unfold aR
        rw [if_pos hv, if_pos (by rw [inF_iff.2 hb.1, inF_iff.2 hb.2]; rfl), hval]
  · refine ⟨0, 0, chS a b c (inR n 1 10000), 0, chS a b c (inR n 1 10000), by unfold repR; rw [if_neg hc], by unfold crR; rw [if_neg hc], by omega, by omega, fun h => absurd h hc, fun h => absurd h hc⟩
/-- Each number that is told to be shown is represented. -/
theorem sh_each {a b c most : Int} : ∀ k ∈ shR a b c most, (repR a b c k).2.2 = 0 := by
  intro k hk
  unfold shR at hk
  split at hk
  · rename_i hc
    obtain ⟨hv, hf, hd⟩ := chS_zero hc
    have hm := inR_iff.1 hf
    have key : ∀ t : Nat, k ∈ shF a b c t → ∃ j : Nat, j < t ∧ k = ((j + 1 : Nat) : Int) ∧ shB a b c j = true := by
      intro t
      induction t with
      | zero => intro h; simp [shF] at h
      | succ t ih =>
        intro h
        unfold shF at h
        rcases List.mem_append.1 h with h1 | h1
        · obtain ⟨j, j1, j2⟩ := ih h1
          exact ⟨j, by omega, j2⟩
        · split at h1
          · rename_i h2
            exact ⟨t, by omega, by simpa using h1, h2⟩
          · simp at h1
    obtain ⟨j, j1, j2, j3⟩ := key _ hk
    unfold shB at j3
    rw [← j2] at j3
    rcases hr : rpR a b c k with ⟨x, y, ok⟩
    rw [hr] at j3
    have : ok = true := j3
    subst this
    rw [rep_is hv hd (by omega) hr]
    rfl
  · simp at hk
end Go.Proofs.YtodbmnbahldabaaDoor
