/- What is asked of the reduced forms of a discriminant and of their cycles: plain. -/
import Derived.Test.YtolbihoeheogkaaDoorOrbC
import Derived.Test.YtolbihoeheogkaaDoorFDr
import Derived.Test.YtolbihoeheogkaaDoorCln
namespace Go.Proofs.YtolbihoeheogkaaDoor
open Go.ChangeShapes Go.WideShapes Go.ChangeAt Go.RowKit
set_option linter.unusedVariables false
set_option maxHeartbeats 1000000
theorem sq_mod4 (b : Int) : b * b % 4 ≤ 1 := by
  rw [Int.mul_emod]
  have h0 := Int.emod_nonneg b (by omega : (4 : Int) ≠ 0)
  have h1 := Int.emod_lt_of_pos b (by omega : (0 : Int) < 4)
  have h : b % 4 = 0 ∨ b % 4 = 1 ∨ b % 4 = 2 ∨ b % 4 = 3 := by omega
  rcases h with h | h | h | h <;> rw [h] <;> decide
theorem small_code {a b c : Int} (h : SmF a b c) : codeF (dF a b c) = 0 ∧ -2000 ≤ dF a b c ∧ dF a b c ≤ 2000 := by
  obtain ⟨h1, h2, h3, h4⟩ := h
  have m1 := mul_f h2 h2
  have m2 := mul_f (a := 4 * a) (b := c) (A := 80) (B := 20) (by omega) h3
  have m3 := sq_nonneg b
  have hd : -2000 ≤ dF a b c ∧ dF a b c ≤ 2000 := by unfold dF; omega
  refine ⟨?_, hd⟩
  have ns := vF_nsq h4
  have h5 : dF a b c % 4 ≤ 1 := by
    have e : dF a b c = b * b - 4 * a * c := rfl
    have e0 : 4 * a * c = 4 * (a * c) := Int.mul_assoc ..
    have := sq_mod4 b
    omega
  unfold codeF
  rw [inR_yes hd.1 hd.2, if_pos rfl, ns, if_neg (by simp; omega)]
theorem smf_sm' {a b c : Int} (h : SmF a b c) : Sm (dF a b c) ⟨a, b, c⟩ := by
  have hc := (small_code h).2
  obtain ⟨h1, h2, h3, h4⟩ := h
  exact ⟨h4, by show -1000 ≤ a ∧ a ≤ 1000; omega, by show -1000 ≤ b ∧ b ≤ 1000; omega, by show -1000 ≤ c ∧ c ≤ 1000; omega, rfl, hc⟩
theorem inC_neg {f x : Fm} (h : dFm f < 0) : inC f x = eqFm f x := by
  unfold inC cyR
  rw [if_pos (show dF f.a f.b f.c < 0 from h)]
  simp [olF]
theorem eqFm_symm (f g : Fm) : eqFm f g = eqFm g f := by
  rw [Bool.eq_iff_iff, eqFm_iff, eqFm_iff]
  exact ⟨fun h => h.symm, fun h => h.symm⟩
theorem met_sym {d : Int} (hd0 : d ≠ 0) (hd : -2000 ≤ d ∧ d ≤ 2000) {i : Nat} (hi : i < (allF d).length) : metF (allF d) i (allF d)[i] = ((allF d).take i).any (fun y => inC (allF d)[i] y) := by
  have hp := all_mem (List.getElem_mem hi)
  unfold metF
  rw [Bool.eq_iff_iff, List.any_eq_true, List.any_eq_true]
  have hs : ∀ y ∈ (allF d).take i, inC y (allF d)[i] = inC (allF d)[i] y := by
    intro y hy
    have hy' := all_mem (List.mem_of_mem_take hy)
    rcases Int.lt_or_le d 0 with h | h
    · rw [inC_neg (by rw [hy'.2.2]; exact h), inC_neg (by rw [hp.2.2]; exact h), eqFm_symm]
    · rw [Bool.eq_iff_iff]
      exact ⟨fun e => inC_symm (by omega) hd.2 hy' hp e, fun e => inC_symm (by omega) hd.2 hp hy' e⟩
  constructor
  · rintro ⟨y, hy, e⟩
    exact ⟨y, hy, by rw [← hs y hy]; exact e⟩
  · rintro ⟨y, hy, e⟩
    exact ⟨y, hy, by rw [hs y hy]; exact e⟩
theorem met_neg {d : Int} (h0 : d < 0) {i : Nat} (hi : i < (allF d).length) : metF (allF d) i (allF d)[i] = false := by
  cases hx : metF (allF d) i (allF d)[i]
  · rfl
  · obtain ⟨j, hj, e⟩ := (metF_iff (by omega)).1 hx
    have hp := all_mem (List.getElem_mem (show j < (allF d).length by omega))
    rw [inC_neg (by rw [hp.2.2]; exact h0)] at e
    have := getElem_inj (by omega) hi (eqFm_iff.1 e)
    omega
theorem cl_neg {d : Int} (h0 : d < 0) : ∀ i, i ≤ (allF d).length → clF (allF d) i = i := by
  intro i
  induction i with
  | zero => intro _; rfl
  | succ i ih =>
    intro h
    rw [cl_new (by omega) (met_neg h0 (by omega)), ih (by omega)]
theorem cl_pos (L : List Fm) : ∀ i, 1 ≤ i → 1 ≤ clF L i := by
  intro i
  induction i with
  | zero => intro h; omega
  | succ i ih =>
    intro _
    rcases Nat.eq_zero_or_pos i with h | h
    · subst h
      unfold clF
      rw [if_neg (by rw [metF_zero]; simp)]
      omega
    · have := ih h
      unfold clF
      omega
theorem cyc_any {d : Int} (hd0 : d ≠ 0) (hd : -2000 ≤ d ∧ d ≤ 2000) {f : Fm} (h : Pd d f) : ∃ C : List Fm, fcR f.a f.b f.c = (C, 0) ∧ C.length ≤ 1000 ∧ ∀ x, C.any (fun y => eqFm y x) = inC f x := by
  rcases Int.lt_or_le d 0 with h0 | h0
  · refine ⟨[f], ?_, by simp, fun x => ?_⟩
    · unfold fcR
      have hv : vF f.a f.b f.c = true := h.1
      have hdd : dF f.a f.b f.c < 0 := by have : dF f.a f.b f.c = d := h.2.2; omega
      rw [if_pos hv, rdR_done h.2.1, if_pos rfl]
      show olF (cyR f) = _
      unfold cyR
      rw [if_pos hdd]
      rfl
    · rw [inC_neg (by rw [h.2.2]; exact h0)]
      simp
  · obtain ⟨C, h1, _, h3, _, h5⟩ := pd_cycle (by omega) hd.2 h
    exact ⟨C, h1, h3, h5⟩
/-- All that the law asks. -/
theorem cl_all {a b c : Int} (h : SmF a b c) : ∃ (L : List Fm) (N : Int), codeF (dF a b c) = 0 ∧ alR (dF a b c) = L ∧ clR (dF a b c) = (N, 0) ∧ N = (clF L L.length : Int) ∧ 1 ≤ N ∧ N ≤ L.length ∧ 1 ≤ L.length ∧ L.length ≤ 10000 ∧ (dF a b c < 0 → N = L.length) ∧
    (∀ i, (hi : i < L.length) → vF L[i].a L[i].b L[i].c = true ∧ redF L[i].a L[i].b L[i].c = true ∧ dF L[i].a L[i].b L[i].c = dF a b c) ∧
    (∀ i, (hi : i < L.length) → ∃ C : List Fm, fcR L[i].a L[i].b L[i].c = (C, 0) ∧ C.length ≤ 1000 ∧ clF L (i + 1) = clF L i + (if (L.take i).any (fun y => C.any (fun z => eqFm z y)) = true then 0 else 1)) ∧
    (∀ i, (hi : i + 1 < L.length) → ltF (L[i]'(by omega)) L[i + 1]) := by
  obtain ⟨hc, hd⟩ := small_code h
  have hd0 := (codeF_nsq hc).1
  have hs := smf_sm' h
  have hne : 1 ≤ (allF (dF a b c)).length := by
    obtain ⟨r, m, r1, r2, r3, -⟩ := sm_rd hs
    have hp : Pd (dF a b c) r := ⟨r2.v, r3, r2.d0⟩
    have hm : r ∈ allF (dF a b c) := by
      rcases Int.lt_or_le (dF a b c) 0 with h1 | h1
      · exact mem_of_neg h1 hd.1 hp
      · exact mem_of_pos (by omega) hd.2 hp
    exact List.length_pos_of_mem hm
  generalize dF a b c = d at *
  have hle := clF_le (allF d) (allF d).length
  have hpos := cl_pos (allF d) (allF d).length hne
  refine ⟨allF d, (clF (allF d) (allF d).length : Int), hc, by unfold alR; rw [if_pos hc], ?_, rfl, by omega, by omega, hne, allF_len hd, ?_, ?_, ?_, ?_⟩
  · unfold clR
    rw [if_pos hc]
    split
    · rename_i h1
      rw [cl_neg h1 _ (Nat.le_refl _)]
    · rfl
  · intro h1
    rw [cl_neg h1 _ (Nat.le_refl _)]
  · intro i hi
    have hp := all_mem (List.getElem_mem hi)
    exact ⟨hp.1, hp.2.1, hp.2.2⟩
  · intro i hi
    have hp := all_mem (List.getElem_mem hi)
    obtain ⟨C, c1, c2, c3⟩ := cyc_any hd0 hd hp
    refine ⟨C, c1, c2, ?_⟩
    have e : ((allF d).take i).any (fun y => C.any (fun z => eqFm z y)) = metF (allF d) i (allF d)[i] := by
      rw [met_sym hd0 hd hi]
      congr 1
      funext y
      rw [c3]
    rw [e]
    conv => lhs; unfold clF
    rw [getD_at _ _ hi]
  · intro i hi
    exact all_lt (by omega) hi
end Go.Proofs.YtolbihoeheogkaaDoor
