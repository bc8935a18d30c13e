/- Plain laws of small forms: each step on the way to a reduced form is plain, and the way ends. -/
import Derived.Test.YtolbihoeheogkaaDoorOrbB
namespace Go.Proofs.YtolbihoeheogkaaDoor
open Go.ChangeShapes Go.WideShapes Go.ChangeAt Go.RowKit
set_option linter.unusedVariables false
set_option maxHeartbeats 1000000
/-- A plain form whose numbers are small. -/
structure Sm (d : Int) (f : Fm) : Prop where
  v : vFm f = true
  a : -1000 ≤ f.a ∧ f.a ≤ 1000
  b : -1000 ≤ f.b ∧ f.b ≤ 1000
  c : -1000 ≤ f.c ∧ f.c ≤ 1000
  d0 : dF f.a f.b f.c = d
  d1 : -2000 ≤ d ∧ d ≤ 2000
theorem small_quot {m B C d : Int} (hm : 1 ≤ m ∧ m ≤ 1000) (hd : -2000 ≤ d ∧ d ≤ 2000) (hB : (B * B ≤ 1936 ∧ m ≤ 44) ∨ B * B ≤ m * m) (hC : 0 ≤ C) (he : 4 * (m * C) ≤ B * B + 2000) : C ≤ 1000 := by
  rcases Int.lt_or_le 1000 C with h | h
  · rcases hB with ⟨h1, h2⟩ | h1
    · have := Int.mul_le_mul_of_nonneg_right hm.1 hC
      omega
    · have q1 := Int.mul_le_mul_of_nonneg_left (show 1001 ≤ C by omega) (show 0 ≤ m by omega)
      have q2 := Int.mul_le_mul_of_nonneg_left hm.2 (show 0 ≤ m by omega)
      omega
  · exact h
theorem hi_neg {c d : Int} (hd : d < 0) : hiF c d = ab c := by
  unfold hiF
  rw [if_neg (by omega)]
theorem sm_b {d : Int} {f : Fm} (h : Sm d f) : (((stp f).b * (stp f).b ≤ 1936 ∧ ab f.c ≤ 44) ∨ (stp f).b * (stp f).b ≤ ab f.c * ab f.c) ∧ (-1000 ≤ (stp f).b ∧ (stp f).b ≤ 1000) := by
  have hc := vF_c h.v
  have h1 := hi_bounds (b := f.b) (d := d) hc
  have e : (stp f).b = stB f.b f.c d := by rw [← h.d0]; rfl
  rw [e]
  have hcb := h.c
  have hab : ab f.c ≤ 1000 := by unfold ab; omega
  rcases hiF_cases f.c d with ⟨_, h2⟩ | ⟨h3, h4, h2⟩ | ⟨_, _, h2⟩
  · rw [h2] at h1
    exact ⟨.inr (by rw [ab_sq]; have := sq_le_of_ab (x := stB f.b f.c d) (m := ab f.c) (by omega) (by omega); rwa [ab_sq] at this), by omega, by omega⟩
  · rw [h2] at h1
    have s44 := rt_le (n := d) (B := 44) (by omega) (by have := h.d1; omega) (by omega) (by have := h.d1; omega)
    have := sq_le_of_ab (x := stB f.b f.c d) (m := 44) (by omega) (by omega)
    exact ⟨.inl ⟨by omega, by omega⟩, by omega, by omega⟩
  · rw [h2] at h1
    exact ⟨.inr (by rw [ab_sq]; have := sq_le_of_ab (x := stB f.b f.c d) (m := ab f.c) (by omega) (by omega); rwa [ab_sq] at this), by omega, by omega⟩
theorem sm_in {d : Int} {f : Fm} (h : Sm d f) : (-10000 ≤ f.a ∧ f.a ≤ 10000) ∧ (-10000 ≤ f.b ∧ f.b ≤ 10000) ∧ (-10000 ≤ f.c ∧ f.c ≤ 10000) := by
  have := h.a
  have := h.b
  have := h.c
  omega
theorem stp_sum {d : Int} {f : Fm} (h : Sm d f) : (stp f).b + f.b = 2 * f.c * stN f.b f.c d ∧ (stp f).c = f.a - f.b * stN f.b f.c d + f.c * stN f.b f.c d * stN f.b f.c d := by
  obtain ⟨i1, i2, i3⟩ := sm_in h
  obtain ⟨g1, g2, g3, g4⟩ := stB_facts (b := f.b) (d := d) (vF_c h.v) (by have := h.d1; omega) i3
  have e : (stp f).b = stB f.b f.c d := by rw [← h.d0]; rfl
  have e2 : (stp f).c = stC f.a f.b f.c d := by rw [← h.d0]; rfl
  rw [e, e2]
  exact ⟨g4, rfl⟩
theorem sm_step {d : Int} {f : Fm} (h : Sm d f) : Sm d (stp f) := by
  have hdd : dF (stp f).a (stp f).b (stp f).c = d := by have := dFm_stp h.v; rw [← h.d0]; exact this
  obtain ⟨hB, hb⟩ := sm_b h
  have ea : (stp f).a = f.c := rfl
  have hc := vF_c h.v
  have hcb := h.c
  have hd1 := h.d1
  have hab : 1 ≤ ab f.c ∧ ab f.c ≤ 1000 := by unfold ab; omega
  have hC : ab (stp f).c ≤ 1000 := by
    refine small_quot hab hd1 hB (ab_nonneg _) ?_
    have e1 : 4 * (ab f.c * ab (stp f).c) = ab (4 * f.c * (stp f).c) := by
      rw [ab_mul, ab_mul]
      have : ab 4 = 4 := rfl
      rw [this, Int.mul_assoc]
    have e3 : d = (stp f).b * (stp f).b - 4 * (stp f).a * (stp f).c := hdd.symm
    rw [ea] at e3
    have e2 : 4 * f.c * (stp f).c = (stp f).b * (stp f).b - d := by omega
    have := sq_nonneg (stp f).b
    rw [e1, e2]
    unfold ab
    omega
  have hc' : -1000 ≤ (stp f).c ∧ (stp f).c ≤ 1000 := by unfold ab at hC; omega
  obtain ⟨s1, s2⟩ := stp_sum h
  refine ⟨vF_mk ⟨by rw [ea]; omega, by rw [ea]; omega⟩ ⟨by omega, by omega⟩ ⟨by omega, by omega⟩ ?_ ?_ ?_, by rw [ea]; exact hcb, hb, hc', hdd, hd1⟩
  · rw [ea]
    exact gcd_step s1 s2 (vF_gcd h.v)
  · rw [hdd, ← h.d0]
    exact vF_nsq h.v
  · rw [hdd, ea]
    rcases Int.lt_or_le 0 d with h1 | h1
    · exact .inl h1
    · have := vF_d h.v
      rw [h.d0] at this
      exact .inr (vF_cpos h.v (by rw [h.d0]; omega)).1
theorem sm_it {d : Int} {f : Fm} (h : Sm d f) (k : Nat) : Sm d (itF f k) := by
  induction k with
  | zero => exact h
  | succ k ih => exact sm_step ih
theorem it_succ (f : Fm) (k : Nat) : itF f (k + 1) = itF (stp f) k := by
  rw [Nat.add_comm, it_add]
  rfl
/-- The way of a small form to a reduced one. -/
theorem rd_sm : ∀ (k : Nat) (d : Int) (f : Fm) (n : Int), Sm d f → muF f < k → ∃ m : Nat, rdF k f n = (itF f m, n + m, true) ∧ redF (itF f m).a (itF f m).b (itF f m).c = true ∧ m ≤ k ∧ (∀ j, j < m → redF (itF f j).a (itF f j).b (itF f j).c = false) := by
  intro k
  induction k with
  | zero => intro d f n h hm; omega
  | succ k ih =>
    intro d f n h hm
    cases hd : redF f.a f.b f.c
    · have hs : stepV f.a f.b f.c = true := (sm_step h).v
      rw [rdF_step hd hs]
      have hlt := mu_lt (f := f) h.v hd hs
      obtain ⟨m, h1, h2, h3, h4⟩ := ih d (stp f) (n + 1) (sm_step h) (by have : muF (stp f) < muF f := hlt; omega)
      refine ⟨m + 1, ?_, ?_, by omega, ?_⟩
      · rw [it_succ]
        show rdF k (stp f) (n + 1) = _
        rw [h1]
        congr 2
        push_cast
        omega
      · rw [it_succ]; exact h2
      · intro j hj
        cases j with
        | zero => exact hd
        | succ j => rw [it_succ]; exact h4 j (by omega)
    · refine ⟨0, ?_, hd, by omega, fun j hj => by omega⟩
      rw [rdF_done hd]
      show (f, n, true) = (f, n + ((0 : Nat) : Int), true)
      simp
theorem rdR_sm {d : Int} {f : Fm} (h : Sm d f) : ∃ m : Nat, rdR f.a f.b f.c = (itF f m, (m : Int), true) ∧ redF (itF f m).a (itF f m).b (itF f m).c = true ∧ m ≤ 10003 ∧ (∀ j, j < m → redF (itF f j).a (itF f j).b (itF f j).c = false) := by
  obtain ⟨m, h1, h2, h3, h4⟩ := rd_sm 10003 d f 0 h (by have := mu_le (f := f) (sm_in h).2.2; omega)
  exact ⟨m, by unfold rdR; show rdF 10003 f 0 = _; rw [h1]; simp, h2, h3, h4⟩
theorem rdR_done {f : Fm} (h : redF f.a f.b f.c = true) : rdR f.a f.b f.c = (f, 0, true) := by
  unfold rdR
  show rdF (10002 + 1) f 0 = _
  exact rdF_done h
/-- The form that a small form leads to, and how many steps. -/
theorem sm_rd {d : Int} {f : Fm} (h : Sm d f) : ∃ (r : Fm) (m : Nat), rdR f.a f.b f.c = (r, (m : Int), true) ∧ Sm d r ∧ redF r.a r.b r.c = true ∧ (m = 0 ↔ redF f.a f.b f.c = true) ∧ (m = 0 → r = f) ∧ m ≤ 10003 ∧ (0 < m → rdR (stp f).a (stp f).b (stp f).c = (r, ((m - 1 : Nat) : Int), true)) := by
  obtain ⟨m, h1, h2, h3, h4⟩ := rdR_sm h
  refine ⟨itF f m, m, h1, sm_it h m, h2, ⟨fun e => by subst e; exact h2, fun e => ?_⟩, fun e => by subst e; rfl, h3, fun hm => ?_⟩
  · rcases Nat.eq_zero_or_pos m with h5 | h5
    · exact h5
    · have := h4 0 h5
      have e2 : redF (itF f 0).a (itF f 0).b (itF f 0).c = true := e
      rw [e2] at this
      cases this
  · obtain ⟨n, g1, g2, g3, g4⟩ := rdR_sm (sm_step h)
    have e : n + 1 = m := by
      rcases Nat.lt_trichotomy (n + 1) m with h5 | h5 | h5
      · have := h4 (n + 1) h5
        rw [it_succ, g2] at this
        cases this
      · exact h5
      · have := g4 (m - 1) (by omega)
        rw [← it_succ, show m - 1 + 1 = m by omega, h2] at this
        cases this
    have e1 : n = m - 1 := by omega
    rw [g1, ← it_succ, e, e1]
theorem neg_b {d : Int} {f : Fm} (h0 : d < 0) (h : Sm d f) : 0 < f.c ∧ (stp f).b = f.c - (f.c + f.b) % (2 * f.c) := by
  have hc : 0 < f.c := (vF_cpos h.v (by rw [h.d0]; exact h0)).1
  refine ⟨hc, ?_⟩
  show stB f.b f.c (dF f.a f.b f.c) = _
  rw [h.d0]
  unfold stB
  rw [hi_neg h0, ab_pos (by omega)]
theorem neg_c {d : Int} {f : Fm} (h0 : d < 0) (h : Sm d f) (hb : (stp f).b * (stp f).b = f.b * f.b) : (stp f).c = f.a := by
  have hc : 0 < f.c := (vF_cpos h.v (by rw [h.d0]; exact h0)).1
  have e1 : d = (stp f).b * (stp f).b - 4 * (stp f).a * (stp f).c := (sm_step h).d0.symm
  have e2 : d = f.b * f.b - 4 * f.a * f.c := h.d0.symm
  have ea : (stp f).a = f.c := rfl
  rw [ea] at e1
  refine Int.eq_of_mul_eq_mul_left (show 4 * f.c ≠ 0 by omega) ?_
  have e3 : 4 * f.a * f.c = 4 * f.c * f.a := by rw [Int.mul_assoc, Int.mul_assoc, Int.mul_comm f.a f.c]
  omega
/-- The step of a reduced form of a discriminant below nought leads back to it. -/
theorem neg_back {d : Int} {f : Fm} (h0 : d < 0) (h : Sm d f) (hr : redF f.a f.b f.c = true) : stp f = f ∨ (redF (stp f).a (stp f).b (stp f).c = false ∧ stp (stp f) = f) := by
  obtain ⟨c0, eb⟩ := neg_b h0 h
  have a0 : 0 < f.a := (vF_cpos h.v (by rw [h.d0]; exact h0)).2
  have hr' := (red_iff_neg (by rw [h.d0]; exact h0)).1 hr
  obtain ⟨r1, r2, r3⟩ := hr'
  have r1' : -f.a ≤ f.b ∧ f.b ≤ f.a := by unfold ab at r1; omega
  have r3' : 0 ≤ f.b ∨ (-f.a < f.b ∧ f.a < f.c) := by
    rcases r3 with h1 | h1
    · exact .inl h1
    · right; unfold ab at h1; omega
  have ea : (stp f).a = f.c := rfl
  by_cases h1 : f.b = f.c
  · have e1 : (stp f).b = f.b := by
      have : (f.c + f.b) % (2 * f.c) = 0 := by rw [h1, show f.c + f.c = 2 * f.c by omega, Int.emod_self]
      omega
    have e2 := neg_c h0 h (by rw [e1])
    left
    have e3 : f.a = f.c := by omega
    have x : ∀ g : Fm, g.a = f.a → g.b = f.b → g.c = f.c → g = f := by
      rintro ⟨x, y, z⟩ h1 h2 h3
      cases f
      simp only at *
      subst h1 h2 h3
      rfl
    exact x _ (by rw [ea, e3]) e1 (by rw [e2, e3])
  · have e1 : (stp f).b = -f.b := by
      have : (f.c + f.b) % (2 * f.c) = f.c + f.b := Int.emod_eq_of_lt (by omega) (by omega)
      omega
    have e2 := neg_c h0 h (by rw [e1, Int.neg_mul_neg])
    have hs := sm_step h
    have x : ∀ g : Fm, g.a = f.a → g.b = f.b → g.c = f.c → g = f := by
      rintro ⟨x, y, z⟩ h1 h2 h3
      cases f
      simp only at *
      subst h1 h2 h3
      rfl
    cases hq : redF (stp f).a (stp f).b (stp f).c
    · right
      refine ⟨rfl, ?_⟩
      obtain ⟨c0', eb'⟩ := neg_b h0 hs
      rw [e1, e2] at eb'
      have e3 : (stp (stp f)).b = f.b := by
        have : (f.a + -f.b) % (2 * f.a) = f.a + -f.b := Int.emod_eq_of_lt (by omega) (by omega)
        omega
      have e4 := neg_c h0 hs (by rw [e3, e1, Int.neg_mul_neg])
      exact x _ e2 e3 (by rw [e4, ea])
    · left
      have hq' := (red_iff_neg (by rw [hs.d0]; exact h0)).1 hq
      rw [ea, e1, e2] at hq'
      obtain ⟨q1, q2, q3⟩ := hq'
      exact x _ (by rw [ea]; omega) (by rw [e1]; omega) (by rw [e2]; omega)
/-- The form behind a small one leads to the same reduced form, or to one of its cycle. -/
theorem next_rd {d : Int} {f r : Fm} {m : Nat} (h : Sm d f) (h1 : rdR f.a f.b f.c = (r, (m : Int), true)) (hm : m = 0 ↔ redF f.a f.b f.c = true) (hr : m = 0 → r = f) (hn : 0 < m → rdR (stp f).a (stp f).b (stp f).c = (r, ((m - 1 : Nat) : Int), true)) (hrr : Sm d r) (hrd : redF r.a r.b r.c = true) :
    ∃ (s : Fm) (n : Int) (M : List Fm), rdR (stp f).a (stp f).b (stp f).c = (s, n, true) ∧ (∃ M', cyR s = some M') ∧ cyR r = some M ∧ s ∈ M ∧ r ∈ M := by
  by_cases hd : d < 0
  · have hc : ∀ x : Fm, Sm d x → cyR x = some [x] := fun x hx => by unfold cyR; rw [if_pos (by rw [hx.d0]; exact hd)]
    rcases Nat.eq_zero_or_pos m with h0 | h0
    · have e := hr h0
      subst e
      rcases neg_back hd h hrd with h2 | ⟨h2, h3⟩
      · exact ⟨r, 0, [r], by rw [h2]; exact rdR_done hrd, ⟨_, hc _ h⟩, hc _ h, by simp, by simp⟩
      · obtain ⟨s, n, g1, g2, g3, g4, g5, g6, g7⟩ := sm_rd (sm_step h)
        have hn0 : 0 < n := by
          rcases Nat.eq_zero_or_pos n with h5 | h5
          · have := g4.1 h5
            rw [h2] at this
            cases this
          · exact h5
        have e := g7 hn0
        rw [h3, rdR_done hrd] at e
        have e2 : s = r := (congrArg Prod.fst e).symm
        subst e2
        exact ⟨s, n, [s], g1, ⟨_, hc _ h⟩, hc _ h, by simp, by simp⟩
    · exact ⟨r, _, [r], hn h0, ⟨_, hc _ hrr⟩, hc _ hrr, by simp, by simp⟩
  · have hd0 : 0 < d := by
      have := (vF_d h.v).1
      rw [h.d0] at this
      omega
    have hd2 : d ≤ 2000 := h.d1.2
    have hp : Pd d r := ⟨hrr.v, hrd, hrr.d0⟩
    obtain ⟨k, k1, k2, k3, k4, k5⟩ := cy_all hd0 hd2 hp
    have hrM : r ∈ iL r k := mem_iL.2 ⟨0, by omega, rfl⟩
    rcases Nat.eq_zero_or_pos m with h0 | h0
    · have e := hr h0
      subst e
      have hp2 := pd_step hd0 hd2 hp
      obtain ⟨i, hi, e2⟩ := it_mod k1 k4 1
      obtain ⟨k', -, -, k3', -⟩ := cy_all hd0 hd2 hp2
      exact ⟨stp r, 0, iL r k, rdR_done hp2.2.1, ⟨_, k3'⟩, k3, mem_iL.2 ⟨i, hi, e2⟩, hrM⟩
    · exact ⟨r, _, iL r k, hn h0, ⟨_, k3⟩, k3, hrM, hrM⟩
theorem fi_nonneg {f : Fm} {L : List Fm} (h : f ∈ L) : decide (0 ≤ fiF f L 0) = true := by
  obtain ⟨k, hk, -, e⟩ := fi_mem L 0 h
  rw [e]
  simp
/-- Two forms that lead to forms of one cycle are equivalent. -/
theorem eqv_yes {a b c x y z : Int} {s r : Fm} {n m : Int} {M : List Fm} (hv : vF a b c = true) (hu : vF x y z = true) (h1 : rdR a b c = (s, n, true)) (h2 : rdR x y z = (r, m, true)) (hs : ∃ M', cyR s = some M') (hr : cyR r = some M) (hm : s ∈ M) : eqvR a b c x y z = (true, 0) := by
  obtain ⟨M', hs⟩ := hs
  unfold eqvR
  rw [hv, hu, h1, h2, if_pos (by decide : (true && true) = true)]
  show (if (true && true) = true then eqvC s (cyR s) (cyR r) else (false, 5)) = _
  rw [hs, hr, if_pos (by decide : (true && true) = true)]
  show (decide (0 ≤ fiF s M 0), (0 : Int)) = _
  rw [fi_nonneg hm]
/-- A form has by the changed numbers what the next form has. -/
theorem va_step {a b c n B C x y : Int} (hB : B + b = 2 * c * n) (hC : C = a - b * n + c * n * n) : vA c B C x y = vA a b c (-y) (x + n * y) := by
  have e : B = 2 * c * n - b := by omega
  subst e hC
  unfold vA
  grind
/-- The cycle of the reduced form. -/
theorem cyc_law {d : Int} {r : Fm} (h : Sm d r) (hrd : redF r.a r.b r.c = true) : ∃ M : List Fm, cyR r = some M ∧ M.length ≤ 968 ∧ (∃ h0 : 0 < M.length, M[0] = r) ∧ (∀ i, (hi : i < M.length) → vFm M[i] = true ∧ redF M[i].a M[i].b M[i].c = true) ∧
    (0 < d → ∀ i, (hi : i < M.length) → Sm d M[i] ∧ stp M[i] = M.getD ((i + 1) % M.length) zF) := by
  by_cases hd : d < 0
  · refine ⟨[r], by unfold cyR; rw [if_pos (by rw [h.d0]; exact hd)], by simp, ⟨by simp, rfl⟩, ?_, fun h0 => by omega⟩
    intro i hi
    have : i = 0 := by simpa using hi
    subst this
    exact ⟨h.v, hrd⟩
  · have hd0 : 0 < d := by
      have := (vF_d h.v).1
      rw [h.d0] at this
      omega
    have hd2 : d ≤ 2000 := h.d1.2
    have hp : Pd d r := ⟨h.v, hrd, h.d0⟩
    obtain ⟨k, k1, k2, k3, k4, k5⟩ := cy_all hd0 hd2 hp
    have hl := iL_len r k
    refine ⟨iL r k, k3, by omega, ⟨by omega, iL_get r k 0 (by omega)⟩, ?_, ?_⟩
    · intro i hi
      rw [iL_get r k i hi]
      have := pd_it hd0 hd2 hp i
      exact ⟨this.1, this.2.1⟩
    · intro _ i hi
      rw [iL_get r k i hi]
      refine ⟨sm_it h i, ?_⟩
      have hlt : (i + 1) % (iL r k).length < (iL r k).length := Nat.mod_lt _ (by omega)
      rw [getD_at _ _ hlt, iL_get r k _ hlt, hl]
      show itF r (i + 1) = _
      rw [hl] at hi
      rcases Nat.lt_or_ge (i + 1) k with h1 | h1
      · rw [Nat.mod_eq_of_lt h1]
      · have e : i + 1 = k := by omega
        rw [e, Nat.mod_self, k4]
        rfl
end Go.Proofs.YtolbihoeheogkaaDoor
