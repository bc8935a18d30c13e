/- Plain laws of the list of all reduced forms of a discriminant: what it holds, and its order. -/
import Derived.Test.YtolbihoeheogkaaDoorOrb
namespace Go.Proofs.YtolbihoeheogkaaDoor
open Go.ChangeShapes Go.WideShapes Go.ChangeAt Go.RowKit
set_option linter.unusedVariables false
set_option maxHeartbeats 1000000
theorem rt_nn (n : Int) : 0 ≤ rt n := Int.natCast_nonneg _
theorem tst_iff {d a b : Int} (ha : a ≠ 0) {z : Fm} : z ∈ tstF d a b ↔ z.a = a ∧ z.b = b ∧ Pd d z := by
  unfold tstF
  constructor
  · intro h
    split at h
    · simp at h
    · rename_i h1
      split at h
      · rename_i h2
        rw [List.mem_singleton] at h
        subst h
        have h3 : (b * b - d).tmod (4 * a) = 0 := by simpa using h1
        have h4 := Int.mul_tdiv_add_tmod (b * b - d) (4 * a)
        rw [Bool.and_eq_true] at h2
        refine ⟨rfl, rfl, h2.1, h2.2, ?_⟩
        show b * b - 4 * a * (b * b - d).tdiv (4 * a) = d
        rw [h3] at h4
        generalize 4 * a * (b * b - d).tdiv (4 * a) = t at *
        omega
      · simp at h
  · rintro ⟨rfl, rfl, hv, hr, hd⟩
    have hd' : z.b * z.b - 4 * z.a * z.c = d := hd
    have e : z.b * z.b - d = 4 * z.a * z.c := by omega
    have e1 : (z.b * z.b - d).tmod (4 * z.a) = 0 := by rw [e]; exact Int.mul_tmod_right _ _
    have e2 : (z.b * z.b - d).tdiv (4 * z.a) = z.c := by rw [e]; exact Int.mul_tdiv_cancel_left _ (by omega)
    have hv' : vF z.a z.b z.c = true := hv
    rw [e1, e2, if_neg (by decide), if_pos (by rw [hv', hr]; rfl)]
    exact List.mem_singleton.2 rfl
theorem inn_iff {d m a : Int} (ha : a ≠ 0) {z : Fm} : ∀ j : Nat, z ∈ innF d m a j ↔ z.a = a ∧ -m ≤ z.b ∧ z.b < -m + j ∧ Pd d z := by
  intro j
  induction j with
  | zero => simp [innF]; omega
  | succ j ih =>
    rw [inn_succ, List.mem_append, ih, tst_iff ha]
    constructor
    · rintro (⟨h1, h2, h3, h4⟩ | ⟨h1, h2, h3⟩)
      · exact ⟨h1, h2, by omega, h4⟩
      · exact ⟨h1, by omega, by omega, h3⟩
    · rintro ⟨h1, h2, h3, h4⟩
      by_cases h5 : z.b = -m + j
      · exact .inr ⟨h1, h5, h4⟩
      · exact .inl ⟨h1, h2, by omega, h4⟩
theorem out_iff {d m : Int} (hm : 0 ≤ m) {z : Fm} : ∀ i : Nat, z ∈ outF d m i ↔ -m ≤ z.a ∧ z.a < -m + i ∧ z.a ≠ 0 ∧ -m ≤ z.b ∧ z.b ≤ m ∧ Pd d z := by
  intro i
  induction i with
  | zero => simp [outF]; omega
  | succ i ih =>
    rw [out_succ, List.mem_append, ih]
    by_cases h0 : -m + (i : Int) = 0
    · rw [if_pos h0]
      constructor
      · rintro (⟨h1, h2, h3, h4⟩ | h)
        · exact ⟨h1, by omega, h3, h4⟩
        · simp at h
      · rintro ⟨h1, h2, h3, h4⟩
        exact .inl ⟨h1, by omega, h3, h4⟩
    · rw [if_neg h0, inn_iff h0]
      constructor
      · rintro (⟨h1, h2, h3, h4⟩ | ⟨h1, h2, h3, h4⟩)
        · exact ⟨h1, by omega, h3, h4⟩
        · exact ⟨by omega, by omega, by omega, h2, by omega, h4⟩
      · rintro ⟨h1, h2, h3, h4, h5, h6⟩
        by_cases h7 : z.a = -m + i
        · exact .inr ⟨h7, h4, by omega, h6⟩
        · exact .inl ⟨h1, by omega, h3, h4, h5, h6⟩
theorem all_mem {d : Int} {z : Fm} (h : z ∈ allF d) : Pd d z := by
  unfold allF at h
  exact ((out_iff (rt_nn _) _).1 h).2.2.2.2.2
theorem win {r a b : Int} (hr : 0 ≤ r) (h1 : -r ≤ a ∧ a ≤ r) (h2 : -r ≤ b ∧ b ≤ r) (h0 : a ≠ 0) {P : Prop} (h : P) : -r ≤ a ∧ a < -r + ((2 * r + 1).toNat : Int) ∧ a ≠ 0 ∧ -r ≤ b ∧ b ≤ r ∧ P :=
  ⟨h1.1, by omega, h0, h2.1, h2.2, h⟩
theorem mem_of_pos {d : Int} {z : Fm} (h0 : 0 < d) (h2 : d ≤ 2000) (h : Pd d z) : z ∈ allF d := by
  have R := pd_rd h0 h2 h
  have e : ab d = d := ab_pos (by omega)
  unfold allF
  rw [e]
  have a1 := R.a1
  have b1 := R.b1
  have b0 := R.b0
  have r0 := R.r0
  have an := R.an
  refine (out_iff r0 _).2 (win r0 ?_ ?_ an h)
  · clear R h e
    generalize rt d = r at *
    unfold ab at a1
    omega
  · clear R h e
    generalize rt d = r at *
    omega
theorem mem_of_neg {d : Int} {z : Fm} (h0 : d < 0) (h2 : -2000 ≤ d) (h : Pd d z) : z ∈ allF d := by
  obtain ⟨hv, hr, hd⟩ := h
  have hd' : dF z.a z.b z.c = d := hd
  have hd2 : d = z.b * z.b - 4 * z.a * z.c := hd'.symm
  have e : ab d = -d := ab_neg h0
  obtain ⟨c0, a0⟩ := vF_cpos hv (by omega)
  rw [red_iff_neg (by omega)] at hr
  obtain ⟨r1, r2, r3⟩ := hr
  have hrt : 0 ≤ rt (-d) := (rt_spec (n := -d) (by omega) (by omega)).1
  have hb : z.b * z.b ≤ z.a * z.a := sq_le_of_ab (by unfold ab at r1; omega) (by unfold ab at r1; omega)
  have hac : z.a * z.a ≤ z.a * z.c := Int.mul_le_mul_of_nonneg_left r2 (by omega)
  have h4 : 4 * z.a * z.c = 4 * (z.a * z.c) := Int.mul_assoc ..
  have ha : z.a ≤ rt (-d) := root_le (n := -d) (by omega) hrt (by omega) (rt_spec (n := -d) (by omega) (by omega)).2.2
  unfold allF
  rw [e]
  have hp : Pd d z := ⟨hv, by rw [red_iff_neg (by omega)]; exact ⟨r1, r2, r3⟩, hd⟩
  have r1' : -z.a ≤ z.b ∧ z.b ≤ z.a := by unfold ab at r1; omega
  refine (out_iff hrt _).2 (win hrt ?_ ?_ (by omega) hp)
  · clear hp hd hd' hv
    generalize rt (-d) = r at *
    omega
  · clear hp hd hd' hv
    generalize rt (-d) = r at *
    omega
/-- The order of the list. -/
def ltF (x y : Fm) : Prop := x.a < y.a ∨ x.a = y.a ∧ x.b < y.b
theorem tst_pw (d a b : Int) : (tstF d a b).Pairwise ltF := by
  unfold tstF
  split
  · exact List.Pairwise.nil
  · split
    · exact List.pairwise_singleton _ _
    · exact List.Pairwise.nil
theorem inn_pw {d m a : Int} (ha : a ≠ 0) (j : Nat) : (innF d m a j).Pairwise ltF := by
  induction j with
  | zero => exact List.Pairwise.nil
  | succ j ih =>
    rw [inn_succ, List.pairwise_append]
    refine ⟨ih, tst_pw _ _ _, fun x hx y hy => ?_⟩
    obtain ⟨x1, x2, x3, -⟩ := (inn_iff ha _).1 hx
    obtain ⟨y1, y2, -⟩ := (tst_iff ha).1 hy
    exact .inr ⟨by omega, by omega⟩
theorem out_pw {d m : Int} (hm : 0 ≤ m) (i : Nat) : (outF d m i).Pairwise ltF := by
  induction i with
  | zero => exact List.Pairwise.nil
  | succ i ih =>
    rw [out_succ, List.pairwise_append]
    by_cases h0 : -m + (i : Int) = 0
    · rw [if_pos h0]
      exact ⟨ih, List.Pairwise.nil, fun x _ y hy => by simp at hy⟩
    · rw [if_neg h0]
      refine ⟨ih, inn_pw h0 _, fun x hx y hy => ?_⟩
      obtain ⟨x1, x2, -⟩ := (out_iff hm _).1 hx
      obtain ⟨y1, -⟩ := (inn_iff h0 _).1 hy
      exact .inl (by omega)
theorem all_pw (d : Int) : (allF d).Pairwise ltF := out_pw (rt_nn _) _
theorem all_lt {d : Int} {i j : Nat} (hij : i < j) (hj : j < (allF d).length) : ltF ((allF d)[i]'(by omega)) (allF d)[j] :=
  List.pairwise_iff_getElem.1 (all_pw d) i j (by omega) hj hij
theorem ltF_ne {x y : Fm} (h : ltF x y) : x ≠ y := by
  intro e
  subst e
  rcases h with h | ⟨_, h⟩ <;> omega
theorem fi_mem {f : Fm} : ∀ (L : List Fm) (i : Int), f ∈ L → ∃ k : Nat, ∃ h : k < L.length, L[k] = f ∧ fiF f L i = i + k := by
  intro L
  induction L with
  | nil => intro i h; simp at h
  | cons x L ih =>
    intro i h
    unfold fiF
    cases hx : eqFm x f
    · rcases List.mem_cons.1 h with h1 | h1
      · subst h1
        have := eqFm_iff.2 (rfl : f = f)
        rw [this] at hx
        simp at hx
      · obtain ⟨k, hk, e1, e2⟩ := ih (i + 1) h1
        refine ⟨k + 1, by simp; omega, by simpa using e1, ?_⟩
        rw [if_neg (by simp), e2]
        omega
    · exact ⟨0, by simp, by simpa using eqFm_iff.1 hx, by rw [if_pos rfl]; omega⟩
theorem fi_self {f : Fm} {L : List Fm} {i : Int} : fiF f (f :: L) i = i := by
  unfold fiF
  rw [if_pos (eqFm_iff.2 rfl)]
theorem getElem_inj {d : Int} {i j : Nat} (hi : i < (allF d).length) (hj : j < (allF d).length) (e : (allF d)[i] = (allF d)[j]) : i = j := by
  rcases Nat.lt_trichotomy i j with h | h | h
  · exact absurd e (ltF_ne (all_lt h hj))
  · exact h
  · exact absurd e.symm (ltF_ne (all_lt h hi))
/-- Is a form met by the cycles of the first i forms of a list? -/
def metF (L : List Fm) (i : Nat) (x : Fm) : Bool := (L.take i).any (fun y => inC y x)
/-- How many of the first i forms are on no cycle of a form before them. -/
def clF (L : List Fm) : Nat → Nat
  | 0 => 0
  | i + 1 => clF L i + (if metF L i (L.getD i zF) = true then 0 else 1)
theorem metF_zero (L : List Fm) (x : Fm) : metF L 0 x = false := by simp [metF]
theorem metF_succ {L : List Fm} {i : Nat} (h : i < L.length) (x : Fm) : metF L (i + 1) x = (metF L i x || inC L[i] x) := by
  unfold metF
  rw [List.take_succ_eq_append_getElem h, List.any_append]
  simp
theorem metF_iff {L : List Fm} {i : Nat} {x : Fm} (hi : i ≤ L.length) : metF L i x = true ↔ ∃ j, ∃ h : j < i, inC (L[j]'(by omega)) x = true := by
  unfold metF
  rw [List.any_eq_true]
  constructor
  · rintro ⟨y, hy, e⟩
    obtain ⟨j, hj, rfl⟩ := List.mem_iff_getElem.1 hy
    simp at hj
    exact ⟨j, by omega, by simpa using e⟩
  · rintro ⟨j, hj, e⟩
    exact ⟨L[j]'(by omega), List.mem_iff_getElem.2 ⟨j, by simp; omega, by simp⟩, e⟩
theorem clF_le (L : List Fm) (i : Nat) : clF L i ≤ i := by
  induction i with
  | zero => simp [clF]
  | succ i ih => unfold clF; split <;> omega
/-- A form met already brings nothing new. -/
theorem met_old {d : Int} (h0 : 0 < d) (h2 : d ≤ 2000) {i : Nat} (hi : i < (allF d).length) (hm : metF (allF d) i (allF d)[i] = true) (x : Fm) : metF (allF d) (i + 1) x = metF (allF d) i x := by
  rw [metF_succ hi]
  cases hx : inC (allF d)[i] x
  · simp
  · have : metF (allF d) i x = true := by
      obtain ⟨j, hj, e⟩ := (metF_iff (by omega)).1 hm
      exact (metF_iff (by omega)).2 ⟨j, hj, inC_trans h0 h2 (all_mem (List.getElem_mem _)) (all_mem (List.getElem_mem hi)) e hx⟩
    rw [this]
    rfl
theorem met_new {d : Int} (h0 : 0 < d) (h2 : d ≤ 2000) {i : Nat} (hi : i < (allF d).length) (hm : metF (allF d) i (allF d)[i] = false) (j : Nat) : metF (allF d) i (itF (allF d)[i] j) = false := by
  cases hx : metF (allF d) i (itF (allF d)[i] j)
  · rfl
  · obtain ⟨k, hk, e⟩ := (metF_iff (by omega)).1 hx
    have := (metF_iff (L := allF d) (i := i) (x := (allF d)[i]) (by omega)).2 ⟨k, hk, inC_back h0 h2 (all_mem (List.getElem_mem _)) (all_mem (List.getElem_mem hi)) e⟩
    rw [this] at hm
    simp at hm
theorem cl_old {L : List Fm} {i : Nat} (hi : i < L.length) (hm : metF L i L[i] = true) : clF L (i + 1) = clF L i := by
  conv => lhs; unfold clF
  rw [getD_at _ _ hi, if_pos hm, Nat.add_zero]
theorem cl_new {L : List Fm} {i : Nat} (hi : i < L.length) (hm : metF L i L[i] = false) : clF L (i + 1) = clF L i + 1 := by
  conv => lhs; unfold clF
  rw [getD_at _ _ hi, if_neg (by rw [hm]; simp)]
/-- The number of classes, and the code. -/
def clR (d : Int) : Int × Int := if codeF d = 0 then (if d < 0 then ((allF d).length : Int) else (clF (allF d) (allF d).length : Int), 0) else (0, codeF d)
theorem codeF_nsq {d : Int} (h : codeF d = 0) : d ≠ 0 ∧ sqB d = false ∧ d % 4 ≤ 1 := by
  unfold codeF at h
  split at h
  · split at h
    · simp at h
    · rename_i h1
      simp at h1
      refine ⟨?_, h1.1, by omega⟩
      intro e
      rw [e, sqB_zero] at h1
      simp at h1
  · simp at h
end Go.Proofs.YtolbihoeheogkaaDoor
