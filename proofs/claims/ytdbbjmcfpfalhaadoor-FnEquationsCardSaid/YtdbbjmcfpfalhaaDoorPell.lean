/- Plain numbers, no program: the surds of the root of d return to the first one within 399 steps, for each d below 10000 that is no square (the kernel reckons); what follows of the convergents. -/
import Derived.KernelRfl
namespace Go.Proofs.YtdbbjmcfpfalhaaDoor
set_option linter.unusedVariables false
/-- The next surd of (P + root d) / Q, r the root rounded down. -/
def nxt (d r : Nat) (s : Nat × Nat) : Nat × Nat :=
  ((s.1 + r) / s.2 * s.2 - s.1, (d - ((s.1 + r) / s.2 * s.2 - s.1) * ((s.1 + r) / s.2 * s.2 - s.1)) / s.2)
def okS (d r P Q : Nat) : Bool := Nat.ble 1 P && (Nat.ble P r && (Nat.ble 1 Q && (Nat.beq ((d - P * P) % Q) 0 && Nat.ble P ((P + r) / Q * Q))))
/-- From (P, Q) on, all surds are as they should be, until (r, q1) comes. -/
def run (d r q1 : Nat) (fuel : Nat) : Nat → Nat → Bool :=
  Nat.rec (fun _ _ => false) (fun _ ih P Q => okS d r P Q && (cond (Nat.beq ((P + r) / Q * Q - P) r && Nat.beq ((d - ((P + r) / Q * Q - P) * ((P + r) / Q * Q - P)) / Q) q1) true (ih ((P + r) / Q * Q - P) ((d - ((P + r) / Q * Q - P) * ((P + r) / Q * Q - P)) / Q)))) fuel
def runs (r : Nat) (k : Nat) : Bool := Nat.rec true (fun j ih => run (r * r + j + 1) r (j + 1) 399 r (j + 1) && ih) k
def allRuns (a n : Nat) : Bool := Nat.rec true (fun r ih => runs (a + r + 1) (2 * (a + r + 1)) && ih) n
set_option maxRecDepth 1000000 in
theorem runs_a : allRuns 0 50 = true := by decide +kernel
set_option maxRecDepth 1000000 in
theorem runs_b : allRuns 50 25 = true := by decide +kernel
set_option maxRecDepth 1000000 in
theorem runs_c : allRuns 75 24 = true := by decide +kernel
theorem runs_of_all {a n : Nat} (h : allRuns a n = true) : ∀ r, a < r → r ≤ a + n → runs r (2 * r) = true := by
  induction n with
  | zero => intro r h1 h2; omega
  | succ n ih =>
    have h' : runs (a + n + 1) (2 * (a + n + 1)) = true ∧ allRuns a n = true := by
      have : allRuns a (n + 1) = (runs (a + n + 1) (2 * (a + n + 1)) && allRuns a n) := rfl
      rw [this] at h
      simpa using h
    intro r h1 h2
    by_cases e : r = a + n + 1
    · rw [e]; exact h'.1
    · exact ih h'.2 r h1 (by omega)
theorem run_of_runs {r k : Nat} (h : runs r k = true) : ∀ j, j < k → run (r * r + j + 1) r (j + 1) 399 r (j + 1) = true := by
  induction k with
  | zero => intro j hj; omega
  | succ k ih =>
    have h' : run (r * r + k + 1) r (k + 1) 399 r (k + 1) = true ∧ runs r k = true := by
      have : runs r (k + 1) = (run (r * r + k + 1) r (k + 1) 399 r (k + 1) && runs r k) := rfl
      rw [this] at h
      simpa using h
    intro j hj
    by_cases e : j = k
    · rw [e]; exact h'.1
    · exact ih h'.2 j (by omega)
theorem run_all {d r : Nat} (h1 : r * r < d) (h2 : d < (r + 1) * (r + 1)) (hr1 : 1 ≤ r) (hr : r ≤ 99) : run d r (d - r * r) 399 r (d - r * r) = true := by
  have e : (r + 1) * (r + 1) = r * r + 2 * r + 1 := by rw [Nat.add_mul, Nat.mul_add]; omega
  have hall : runs r (2 * r) = true := by
    by_cases c1 : r ≤ 50
    · exact runs_of_all runs_a r (by omega) (by omega)
    · by_cases c2 : r ≤ 75
      · exact runs_of_all runs_b r (by omega) (by omega)
      · exact runs_of_all runs_c r (by omega) (by omega)
  have := run_of_runs hall (d - r * r - 1) (by omega)
  rw [show r * r + (d - r * r - 1) + 1 = d by omega, show d - r * r - 1 + 1 = d - r * r by omega] at this
  exact this
/-- The k-th surd behind s. -/
def itS (d r : Nat) : Nat → Nat × Nat → Nat × Nat
  | 0, s => s
  | k + 1, s => itS d r k (nxt d r s)
theorem itS_succ (d r : Nat) : ∀ (k : Nat) (s : Nat × Nat), itS d r (k + 1) s = nxt d r (itS d r k s) := by
  intro k
  induction k with
  | zero => intro s; rfl
  | succ k ih => intro s; rw [itS, ih]; rfl
theorem itS_add (d r : Nat) (a : Nat) : ∀ (b : Nat) (s : Nat × Nat), itS d r (a + b) s = itS d r a (itS d r b s) := by
  intro b
  induction b with
  | zero => intro s; rfl
  | succ b ih => intro s; rw [← Nat.add_assoc, itS, ih]; rfl
theorem run_spec {d r q1 : Nat} : ∀ (f : Nat) (P Q : Nat), run d r q1 f P Q = true →
    ∃ n, 1 ≤ n ∧ n ≤ f ∧ itS d r n (P, Q) = (r, q1) ∧ (∀ j, j < n → okS d r (itS d r j (P, Q)).1 (itS d r j (P, Q)).2 = true) ∧ (∀ j, 1 ≤ j → j < n → itS d r j (P, Q) ≠ (r, q1)) := by
  intro f
  induction f with
  | zero => intro P Q h; cases h
  | succ f ih =>
    intro P Q h
    have e : run d r q1 (f + 1) P Q = (okS d r P Q && (cond (Nat.beq (nxt d r (P, Q)).1 r && Nat.beq (nxt d r (P, Q)).2 q1) true (run d r q1 f (nxt d r (P, Q)).1 (nxt d r (P, Q)).2))) := rfl
    rw [e, Bool.and_eq_true] at h
    obtain ⟨h1, h2⟩ := h
    cases hc : (Nat.beq (nxt d r (P, Q)).1 r && Nat.beq (nxt d r (P, Q)).2 q1) with
    | true =>
      rw [Bool.and_eq_true] at hc
      have e1 := Nat.eq_of_beq_eq_true hc.1
      have e2 := Nat.eq_of_beq_eq_true hc.2
      refine ⟨1, by omega, by omega, ?_, ?_, ?_⟩
      · show nxt d r (P, Q) = (r, q1)
        exact Prod.ext e1 e2
      · intro j hj
        have : j = 0 := by omega
        subst this
        exact h1
      · intro j h3 h4; omega
    | false =>
      rw [hc] at h2
      obtain ⟨n, n1, n2, n3, n4, n5⟩ := ih _ _ h2
      refine ⟨n + 1, by omega, by omega, n3, ?_, ?_⟩
      · intro j hj
        cases j with
        | zero => exact h1
        | succ j => exact n4 j (by omega)
      · intro j h3 h4
        cases j with
        | zero => omega
        | succ j =>
          cases j with
          | zero =>
            intro h5
            have h6 : nxt d r (P, Q) = (r, q1) := h5
            rw [h6] at hc
            simp at hc
          | succ j => exact n5 (j + 1) (by omega) (by omega)
/-- The surds of the root itself. -/
def sS (d r : Nat) (k : Nat) : Nat × Nat := itS d r k (0, 1)
/-- d is no square, r its root, n the number of terms of the period. -/
structure Per (d r n : Nat) : Prop where
  lo : r * r < d
  hi : d < (r + 1) * (r + 1)
  r1 : 1 ≤ r
  r2 : r ≤ 99
  n1 : 1 ≤ n
  n2 : n ≤ 399
  back : sS d r (n + 1) = sS d r 1
  ok : ∀ k, 1 ≤ k → k ≤ n → okS d r (sS d r k).1 (sS d r k).2 = true
  first : ∀ k, 2 ≤ k → k ≤ n → sS d r k ≠ sS d r 1
theorem sS_one (d r : Nat) : sS d r 1 = (r, d - r * r) := by
  show nxt d r (0, 1) = _
  simp [nxt]
theorem sS_succ (d r k : Nat) : sS d r (k + 1) = nxt d r (sS d r k) := itS_succ d r k _
theorem sS_from (d r k : Nat) : sS d r (k + 1) = itS d r k (r, d - r * r) := by
  have h : sS d r (k + 1) = itS d r k (nxt d r (0, 1)) := rfl
  rw [h]
  congr 1
  simp [nxt]
theorem per_of {d r : Nat} (h1 : r * r < d) (h2 : d < (r + 1) * (r + 1)) (hr1 : 1 ≤ r) (hr : r ≤ 99) : ∃ n, Per d r n := by
  obtain ⟨n, n1, n2, n3, n4, n5⟩ := run_spec _ _ _ (run_all h1 h2 hr1 hr)
  refine ⟨n, h1, h2, hr1, hr, n1, n2, ?_, ?_, ?_⟩
  · rw [sS_from, sS_one, n3]
  · intro k k1 k2
    obtain ⟨j, rfl⟩ : ∃ j, k = j + 1 := ⟨k - 1, by omega⟩
    rw [sS_from]
    exact n4 j (by omega)
  · intro k k1 k2
    obtain ⟨j, rfl⟩ : ∃ j, k = j + 1 := ⟨k - 1, by omega⟩
    rw [sS_from, sS_one]
    exact n5 j (by omega) (by omega)
theorem okS_iff {d r P Q : Nat} (h : okS d r P Q = true) : 1 ≤ P ∧ P ≤ r ∧ 1 ≤ Q ∧ (d - P * P) % Q = 0 ∧ P ≤ (P + r) / Q * Q := by
  simp only [okS, Bool.and_eq_true] at h
  exact ⟨Nat.le_of_ble_eq_true h.1, Nat.le_of_ble_eq_true h.2.1, Nat.le_of_ble_eq_true h.2.2.1, Nat.eq_of_beq_eq_true h.2.2.2.1, Nat.le_of_ble_eq_true h.2.2.2.2⟩
/-- No surd comes twice before the period has ended. -/
theorem Per.apart {d r n : Nat} (H : Per d r n) : ∀ i j, i < j → j ≤ n → sS d r i ≠ sS d r j := by
  intro i j h1 h2 he
  cases i with
  | zero =>
    have := (okS_iff (H.ok j (by omega) h2)).1
    rw [← he] at this
    simp [sS, itS] at this
  | succ i =>
    -- forward by n + 1 - j steps: the first one comes too early
    have e1 : sS d r (n + 1 - j + j) = itS d r (n + 1 - j) (sS d r j) := itS_add d r _ _ _
    have e2 : sS d r (n + 1 - j + (i + 1)) = itS d r (n + 1 - j) (sS d r (i + 1)) := itS_add d r _ _ _
    rw [← he, ← e2, show n + 1 - j + j = n + 1 by omega, H.back] at e1
    exact H.first (n + 1 - j + (i + 1)) (by omega) (by omega) e1.symm
end Go.Proofs.YtdbbjmcfpfalhaaDoor
