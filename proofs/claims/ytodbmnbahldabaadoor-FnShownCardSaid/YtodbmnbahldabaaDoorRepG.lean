/- Forms of a discriminant that show a number: plain laws. -/
import Derived.Test.YtodbmnbahldabaaDoorRepF
namespace Go.Proofs.YtodbmnbahldabaaDoor
open Go.ChangeShapes Go.WideShapes Go.ChangeAt Go.RowKit
set_option linter.unusedVariables false
set_option maxHeartbeats 1000000
set_option maxRecDepth 20000
theorem mem_tst {d a b : Int} {z : Fm} (h : z ∈ tstF d a b) : vF z.a z.b z.c = true ∧ dF z.a z.b z.c = d := by
  unfold tstF at h
  split at h
  · simp at h
  · rename_i h1
    split at h
    · rename_i h2
      rw [List.mem_singleton] at h
      subst h
      have h3 : (b * b - d).tmod (4 * a) = 0 := by simpa using h1
      have h4 := Int.mul_tdiv_add_tmod (b * b - d) (4 * a)
      rw [Bool.and_eq_true] at h2
      refine ⟨h2.1, ?_⟩
      show b * b - 4 * a * (b * b - d).tdiv (4 * a) = d
      rw [h3] at h4
      generalize 4 * a * (b * b - d).tdiv (4 * a) = t at *
      omega
    · simp at h
theorem mem_inn {d m a : Int} {z : Fm} : ∀ j : Nat, z ∈ innF d m a j → vF z.a z.b z.c = true ∧ dF z.a z.b z.c = d := by
  intro j
  induction j with
  | zero => intro h; simp [innF] at h
  | succ j ih =>
    intro h
    rw [inn_succ] at h
    rcases List.mem_append.1 h with h1 | h1
    · exact ih h1
    · exact mem_tst h1
theorem mem_out {d m : Int} {z : Fm} : ∀ i : Nat, z ∈ outF d m i → vF z.a z.b z.c = true ∧ dF z.a z.b z.c = d := by
  intro i
  induction i with
  | zero => intro h; simp [outF] at h
  | succ i ih =>
    intro h
    rw [out_succ] at h
    rcases List.mem_append.1 h with h1 | h1
    · exact ih h1
    · split at h1
      · simp at h1
      · exact mem_inn _ h1
theorem mem_all {d : Int} {z : Fm} (h : z ∈ allF d) : vF z.a z.b z.c = true ∧ dF z.a z.b z.c = d := mem_out _ h
theorem all_len {d : Int} (hd : -2000 ≤ d ∧ d ≤ 2000) : (allF d).length ≤ 10000 := by
  have hm := rt44 hd
  have h1 := outF_len d (rt (ab d)) (2 * rt (ab d) + 1).toNat
  have h3 : (2 * rt (ab d) + 1).toNat * (2 * rt (ab d) + 1).toNat ≤ 89 * 89 := Nat.mul_le_mul (by omega) (by omega)
  unfold allF
  omega
/-- The forms of a list that show n. -/
def okN (n : Int) (z : Fm) : Bool := okOf (rpR z.a z.b z.c n)
def ffP (n : Int) (L : List Fm) (i : Nat) : List Fm := (L.take i).filter (okN n)
theorem ffP_zero (n : Int) (L : List Fm) : ffP n L 0 = [] := by simp [ffP]
theorem filt_one {α : Type} (p : α → Bool) (x : α) {ok : Bool} (e : p x = ok) : [x].filter p = (if ok = true then [x] else []) := by
  subst e
  cases h : p x <;> simp [h]
theorem filt_step {α : Type} (p : α → Bool) (L : List α) {i : Nat} (h : i < L.length) {ok : Bool} (e : p L[i] = ok) : (L.take (i + 1)).filter p = (L.take i).filter p ++ (if ok = true then [L[i]] else []) := by
  rw [List.take_succ_eq_append_getElem h, List.filter_append, filt_one p _ e]
theorem ffP_step {n : Int} {L : List Fm} {i : Nat} (h : i < L.length) {ok : Bool} (e : okN n L[i] = ok) : ffP n L (i + 1) = ffP n L i ++ (if ok = true then [L[i]] else []) := by
  exact filt_step (okN n) L h e
theorem ffP_len (n : Int) (L : List Fm) (i : Nat) : (ffP n L i).length ≤ L.length := by
  unfold ffP
  have h1 := List.length_filter_le (okN n) (L.take i)
  have h2 : (L.take i).length ≤ L.length := by simp; omega
  omega
def cffR (d n : Int) : Int := if inR n 1 10000 = true then (if inR d (-2000) 2000 = true then (if (decide (d < 0) && decide (d % 4 ≤ 1)) = true then 0 else 6) else 2) else 2
def ffR (d n : Int) : List Fm := if cffR d n = 0 then ffP n (allF d) (allF d).length else []
theorem cff_zero {d n : Int} (h : cffR d n = 0) : inR n 1 10000 = true ∧ inR d (-2000) 2000 = true ∧ d < 0 ∧ d % 4 ≤ 1 := by
  unfold cffR at h
  split at h
  · rename_i h1
    split at h
    · rename_i h2
      split at h
      · rename_i h3
        simp at h3
        exact ⟨h1, h2, h3⟩
      · simp at h
    · simp at h
  · simp at h
theorem ffR_len (d n : Int) : (ffR d n).length ≤ 1000000 := by
  unfold ffR
  split
  · rename_i h
    have h1 := inR_iff.1 (cff_zero h).2.1
    have h2 := all_len h1
    have h3 := ffP_len n (allF d) (allF d).length
    omega
  · simp
theorem codeF_in {d : Int} (h : inR d (-2000) 2000 = true) : codeF d = if (sqB d || decide (1 < d % 4)) = true then 6 else 0 := by
  unfold codeF
  rw [if_pos h]
theorem codeF_neg {d : Int} (h : inR d (-2000) 2000 = true) (hd : d < 0) (n : Int) (hn : inR n 1 10000 = true) : codeF d = cffR d n := by
  rw [codeF_in h, sqB_neg hd]
  unfold cffR
  rw [if_pos hn, if_pos h]
  by_cases h4 : 1 < d % 4
  · have h5 : ¬ d % 4 ≤ 1 := by omega
    simp [h4, h5]
  · have h5 : d % 4 ≤ 1 := by omega
    simp [h4, h5, hd]
theorem codeF_pos {d : Int} (h : inR d (-2000) 2000 = true) (hd : ¬ d < 0) (n : Int) (hn : inR n 1 10000 = true) : cffR d n = 6 ∧ (codeF d = 6 ∨ codeF d = 0 ∧ 0 < d) := by
  constructor
  · unfold cffR
    rw [if_pos hn, if_pos h]
    simp [hd]
  · rw [codeF_in h]
    by_cases h0 : d = 0
    · subst h0
      left
      rw [sqB_zero]
      simp
    · split
      · exact .inl rfl
      · exact .inr ⟨rfl, by omega⟩
end Go.Proofs.YtodbmnbahldabaaDoor
