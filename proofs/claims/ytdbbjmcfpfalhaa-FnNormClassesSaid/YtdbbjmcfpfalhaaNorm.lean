/- Classes of solutions: the plain law: one class each, next ones stay, and a proof means that there is none. -/
import Derived.Test.YtdbbjmcfpfalhaaNextB
import Derived.Test.YtdbbjmcfpfalhaaClsC
import Derived.Test.YtdbbjmcfpfalhaaEqD
namespace Go.Proofs.Ytdbbjmcfpfalhaa
open Go.ChangeShapes Go.WideShapes Go.ChangeAt Go.RowKit
set_option linter.unusedVariables false
set_option maxHeartbeats 1000000
theorem smB_iff {d n ax ay bx b_ : Int} : smB d n ax ay bx b_ = true ↔ n ∣ ax * bx - d * ay * b_ ∧ n ∣ ax * b_ - ay * bx := by
  simp only [smB, Bool.and_eq_true, beq_iff_eq, Int.dvd_iff_tmod_eq_zero]
theorem sm_symm {d n ax ay bx b_ : Int} (h : smB d n ax ay bx b_ = true) : smB d n bx b_ ax ay = true := by
  rw [smB_iff] at h ⊢
  have e1 : bx * ax - d * b_ * ay = ax * bx - d * ay * b_ := by grind
  have e2 : bx * ay - b_ * ax = -(ax * b_ - ay * bx) := by grind
  rw [e1, e2]
  exact ⟨h.1, Int.dvd_neg.2 h.2⟩
theorem sm_symmE (d n ax ay bx b_ : Int) : smB d n ax ay bx b_ = smB d n bx b_ ax ay := by
  rw [Bool.eq_iff_iff]
  exact ⟨sm_symm, sm_symm⟩
theorem sm_trans {d n ax ay bx b_ cx cy : Int} (hn : n ≠ 0) (hb : nrm d bx b_ = n) (h1 : smB d n ax ay bx b_ = true) (h2 : smB d n bx b_ cx cy = true) : smB d n ax ay cx cy = true := by
  rw [smB_iff] at h1 h2 ⊢
  obtain ⟨⟨s1, e1⟩, ⟨s2, e2⟩⟩ := h1
  obtain ⟨⟨t1, f1⟩, ⟨t2, f2⟩⟩ := h2
  have k1 : n * (ax * cx - d * ay * cy) = (ax * bx - d * ay * b_) * (bx * cx - d * b_ * cy) + d * ((ax * b_ - ay * bx) * (bx * cy - b_ * cx)) := by rw [← hb]; unfold nrm; grind
  have k2 : n * (ax * cy - ay * cx) = (ax * bx - d * ay * b_) * (bx * cy - b_ * cx) + (ax * b_ - ay * bx) * (bx * cx - d * b_ * cy) := by rw [← hb]; unfold nrm; grind
  rw [e1, e2, f1, f2] at k1 k2
  refine ⟨⟨s1 * t1 + d * (s2 * t2), ?_⟩, ⟨s1 * t2 + s2 * t1, ?_⟩⟩
  · apply Int.eq_of_mul_eq_mul_left hn
    rw [k1]; grind
  · apply Int.eq_of_mul_eq_mul_left hn
    rw [k2]; grind
theorem sm_next {d n qx qy px py X Y : Int} (hu : nrm d X Y = 1) : smB d n qx qy (muX d px py X Y) (muY px py X Y) = smB d n qx qy px py := by
  unfold nrm at hu
  have hu' : X * X = 1 + d * Y * Y := by omega
  rw [Bool.eq_iff_iff, smB_iff, smB_iff]
  unfold muX muY
  generalize hA : qx * px - d * qy * py = A
  generalize hB : qx * py - qy * px = B
  have e1 : qx * (px * X + d * py * Y) - d * qy * (px * Y + py * X) = X * A + d * Y * B := by rw [← hA, ← hB]; grind
  have e2 : qx * (px * Y + py * X) - qy * (px * X + d * py * Y) = Y * A + X * B := by rw [← hA, ← hB]; grind
  rw [e1, e2]
  constructor
  · rintro ⟨⟨s, hs⟩, ⟨t, ht⟩⟩
    refine ⟨⟨X * s - d * Y * t, ?_⟩, ⟨X * t - Y * s, ?_⟩⟩
    · have : n * (X * s - d * Y * t) = X * (n * s) - d * Y * (n * t) := by grind
      rw [this, ← hs, ← ht]
      have : X * (X * A + d * Y * B) - d * Y * (Y * A + X * B) = (X * X - d * Y * Y) * A := by grind
      rw [this, hu]; omega
    · have : n * (X * t - Y * s) = X * (n * t) - Y * (n * s) := by grind
      rw [this, ← hs, ← ht]
      have : X * (Y * A + X * B) - Y * (X * A + d * Y * B) = (X * X - d * Y * Y) * B := by grind
      rw [this, hu]; omega
  · rintro ⟨⟨s, hs⟩, ⟨t, ht⟩⟩
    rw [hs, ht]
    refine ⟨⟨X * s + d * Y * t, by grind⟩, ⟨Y * s + X * t, by grind⟩⟩
theorem nrm_mul {d px py X Y : Int} (hu : nrm d X Y = 1) : nrm d (muX d px py X Y) (muY px py X Y) = nrm d px py := by
  have e : nrm d (muX d px py X Y) (muY px py X Y) = nrm d px py * nrm d X Y := by unfold nrm muX muY; grind
  rw [e, hu]; omega
/-- Where the place of a class is. -/
theorem fnC_spec (d n x y : Int) : ∀ (L : List Pp) (k : Nat), (fnC d n x y L k = -1 ∧ ∀ p ∈ L, smB d n p.x p.y x y = false) ∨
    ∃ j, ∃ h : j < L.length, fnC d n x y L k = ((j + k : Nat) : Int) ∧ smB d n (L[j]).x (L[j]).y x y = true ∧ ∀ i, ∀ h2 : i < j, smB d n (L[i]'(by omega)).x (L[i]'(by omega)).y x y = false := by
  intro L
  induction L with
  | nil => intro k; left; exact ⟨rfl, fun p hp => by simp at hp⟩
  | cons p L ih =>
    intro k
    unfold fnC
    cases hs : smB d n p.x p.y x y
    · rw [if_neg (by decide)]
      rcases ih (k + 1) with ⟨h1, h2⟩ | ⟨j, h, h1, h2, h3⟩
      · left
        refine ⟨h1, fun q hq => ?_⟩
        rcases List.mem_cons.1 hq with rfl | hq
        · exact hs
        · exact h2 q hq
      · right
        refine ⟨j + 1, by simp; omega, by rw [h1]; congr 1; omega, by simpa using h2, fun i hi => ?_⟩
        cases i with
        | zero => simpa using hs
        | succ i => simpa using h3 i (by omega)
    · rw [if_pos rfl]
      right
      exact ⟨0, by simp, by simp, by simpa using hs, fun i hi => by omega⟩
/-- The classes that are told: solutions, no two of one class. -/
structure ClOk (d n : Int) (L : List Pp) : Prop where
  sol : ∀ p ∈ L, isS d n p.x p.y = true
  two : ∀ i j (hi : i < L.length) (hj : j < L.length), i < j → smB d n (L[i]).x (L[i]).y (L[j]).x (L[j]).y = false
theorem adC_ok {d n : Int} {L : List Pp} {p : Pp} (h : ClOk d n L) (hp : isS d n p.x p.y = true) : ClOk d n (adC d n L p) := by
  unfold adC
  split
  · rename_i hf
    have hall : ∀ q ∈ L, smB d n q.x q.y p.x p.y = false := by
      rcases fnC_spec d n p.x p.y L 0 with ⟨_, h2⟩ | ⟨j, _, h1, _⟩
      · exact h2
      · omega
    constructor
    · intro q hq
      rw [List.mem_append, List.mem_singleton] at hq
      rcases hq with hq | rfl
      · exact h.sol q hq
      · exact hp
    · intro i j hi hj hij
      rw [List.length_append, List.length_singleton] at hi hj
      have e1 : (L ++ [p])[i] = L[i] := List.getElem_append_left (by omega)
      rw [e1]
      by_cases hjl : j < L.length
      · have e2 : (L ++ [p])[j] = L[j] := List.getElem_append_left hjl
        rw [e2]
        exact h.two i j (by omega) hjl hij
      · have e2 : (L ++ [p])[j] = p := by
          have : j = L.length := by omega
          subst this
          simp
        rw [e2]
        exact hall _ (List.getElem_mem _)
  · exact h
theorem isS_neg {d n x y : Int} (h : isS d n x y = true) : isS d n (-x) y = true := by
  simp only [isS, Bool.and_eq_true, beq_iff_eq] at h ⊢
  refine ⟨pOk_neg h.1, ?_⟩
  rw [← h.2]
  unfold nrm
  rw [Int.neg_mul_neg]
theorem isS_at {d n : Int} (hd : 2 ≤ d ∧ d ≤ 1000) (hn : -1000 ≤ n ∧ n ≤ 1000) {k : Nat} (hk : k ≤ 100000) (hs : sqB (zX d n k) = true) : isS d n (rt (zX d n k)) k = true := by
  have hp := su_plain (y := (k : Int)) hd hn (by omega)
  simp only [isS, Bool.and_eq_true, beq_iff_eq]
  refine ⟨hp, ?_⟩
  simp only [sqB, Bool.and_eq_true, decide_eq_true_eq, beq_iff_eq] at hs
  unfold nrm
  have := hs.2
  unfold zX at this ⊢
  omega
theorem cs_ok {d n : Int} (hd : 2 ≤ d ∧ d ≤ 1000) (hn : -1000 ≤ n ∧ n ≤ 1000) (k : Nat) (hk : k ≤ 100001) : ClOk d n (csF d n k) := by
  induction k with
  | zero => exact ⟨fun p hp => by simp [csF] at hp, fun i j hi => by simp [csF] at hi⟩
  | succ k ih =>
    unfold csF
    split
    · rename_i hs
      have h0 := isS_at hd hn (by omega : k ≤ 100000) hs
      exact adC_ok (adC_ok (ih (by omega)) h0) (isS_neg h0)
    · exact ih (by omega)
/-- Just one class. -/
theorem cl_one {d n x y : Int} {L : List Pp} (hn : n ≠ 0) (h : ClOk d n L) (hp : isS d n x y = true) (i : Nat) (hi : i < L.length) :
    smB d n x y (L[i]).x (L[i]).y = ((i : Int) == fnC d n x y L 0) := by
  rw [sm_symmE]
  have nr : ∀ {a b : Int}, isS d n a b = true → nrm d a b = n := fun h => by simp only [isS, Bool.and_eq_true, beq_iff_eq] at h; exact h.2
  rcases fnC_spec d n x y L 0 with ⟨h1, h2⟩ | ⟨j, hj, h1, h2, h3⟩
  · rw [h1, h2 _ (List.getElem_mem hi)]
    symm
    simp
    try omega
  · rw [h1]
    rcases Nat.lt_trichotomy i j with hlt | rfl | hlt
    · rw [h3 i hlt]
      symm
      simp
      omega
    · rw [h2]
      simp
    · have hf : smB d n (L[i]).x (L[i]).y x y = false := by
        cases hc : smB d n (L[i]).x (L[i]).y x y
        · rfl
        · have := sm_trans hn (nr hp) h2 (sm_symm hc)
          rw [h.two j i hj hi hlt] at this
          cases this
      rw [hf]
      symm
      simp
      omega
theorem fnC_next {d n px py X Y : Int} (hu : nrm d X Y = 1) : ∀ (L : List Pp) (k : Nat), fnC d n (muX d px py X Y) (muY px py X Y) L k = fnC d n px py L k := by
  intro L
  induction L with
  | nil => intro k; rfl
  | cons p L ih =>
    intro k
    unfold fnC
    rw [sm_next hu, ih (k + 1)]
theorem noY_all {d n : Int} {m : Nat} : ∀ k y, noY d n m k y = true → ∀ j, y ≤ j → j < y + k → (mtL m m).getD (yR d n m j) false = false := by
  intro k
  induction k with
  | zero => intro y _ j h1 h2; omega
  | succ k ih =>
    intro y h j h1 h2
    cases hc : (mtL m m).getD (yR d n m y) false
    · rw [noY_no hc] at h
      by_cases e : j = y
      · subst e; exact hc
      · exact ih (y + 1) h j (by omega) (by omega)
    · rw [noY_yes hc] at h
      cases h
theorem mtL_true {m : Nat} (hm : 0 < m) : ∀ i x, x < i → (mtL m i).getD (x * x % m) false = true := by
  intro i
  induction i with
  | zero => intro x hx; omega
  | succ i ih =>
    intro x hx
    have hlt : x * x % m < m := Nat.mod_lt _ hm
    unfold mtL
    rw [List.getD_eq_getElem?_getD, List.getElem?_set]
    split
    · rename_i e
      rw [if_pos (by rw [mtL_len]; rw [e]; exact hlt)]
      rfl
    · rename_i e
      have hxi : x < i := by
        rcases Nat.lt_or_ge x i with h | h
        · exact h
        · exact absurd (by have : x = i := by omega
                           rw [this]) e
      rw [← List.getD_eq_getElem?_getD]
      exact ih x hxi
theorem noY_none {d n : Int} {m : Nat} (hm : 0 < m) (h : noY d n m m 0 = true) {x y : Int} : nrm d x y ≠ n := by
  intro e
  unfold nrm at e
  have hy0 := Int.emod_nonneg y (by omega : (m : Int) ≠ 0)
  have hy1 := Int.emod_lt_of_pos y (by omega : 0 < (m : Int))
  have hx0 := Int.emod_nonneg x (by omega : (m : Int) ≠ 0)
  have hx1 := Int.emod_lt_of_pos x (by omega : 0 < (m : Int))
  obtain ⟨b, hb⟩ := Int.eq_ofNat_of_zero_le hy0
  obtain ⟨a, ha⟩ := Int.eq_ofNat_of_zero_le hx0
  have h1 := noY_all m 0 h b (by omega) (by omega)
  have h2 := mtL_true hm m a (by omega)
  have e2 : yR d n m b = a * a % m := by
    unfold yR
    have e3 : (n + d * b * b) % (m : Int) = ((a * a % m : Nat) : Int) := by
      rw [Int.natCast_emod, Int.natCast_mul]
      have hy := Int.mul_ediv_add_emod y m
      have hx := Int.mul_ediv_add_emod x m
      rw [hb] at hy
      rw [ha] at hx
      generalize y / (m : Int) = q at *
      generalize x / (m : Int) = p at *
      have e4 : n + d * b * b = (a : Int) * a + (m : Int) * (m * (p * p) + 2 * (p * a) - d * (m * (q * q) + 2 * (q * b))) := by
        rw [← e, ← hy, ← hx]
        grind
      rw [e4, Int.add_mul_emod_self_left]
    rw [e3]
    rfl
  rw [e2, h2] at h1
  cases h1
theorem per_q1 {d r n : Nat} (H : Per d r n) : (sS d r n).2 = 1 := by
  have h := H.back
  rw [sS_succ, sS_one] at h
  generalize sS d r n = s at *
  obtain ⟨P, Q⟩ := s
  simp only [nxt, Prod.mk.injEq] at h
  obtain ⟨h1, h2⟩ := h
  rw [h1] at h2
  have := H.lo
  rcases Nat.div_eq_self.1 h2 with h3 | h3
  · omega
  · exact h3
theorem unit_nrm {d : Int} {D r n : Nat} (H : PerI d D r n) : nrm d (cv D r n).x (cv D r n).y = if n % 2 = 0 then 1 else -1 := by
  obtain ⟨s, q, hs, -, h1, -, -⟩ := cv_norm H n (Nat.le_refl _)
  have e : nrm d (cv D r n).x (cv D r n).y = s * (sS D r n).2 := by rw [← h1]; unfold nrm; rw [Int.mul_assoc]
  rw [e, per_q1 H.per, hs]
  split <;> simp
theorem least_nrm {d : Int} {D r n : Nat} (H : PerI d D r n) (h : (lsR d (cv D r n).x (cv D r n).y (odN n)).2.2 = true) :
    nrm d (lsR d (cv D r n).x (cv D r n).y (odN n)).1 (lsR d (cv D r n).x (cv D r n).y (odN n)).2.1 = 1 := by
  have hu := unit_nrm H
  generalize (cv D r n).x = x at *
  generalize (cv D r n).y = y at *
  cases hp : pOk d x y with
  | false =>
    have e : lsR d x y (odN n) = (0, 0, false) := by unfold lsR; rw [hp]; rfl
    rw [e] at h
    cases h
  | true =>
    by_cases ho : n % 2 = 1
    · have e0 : odN n = true := by simp [odN, ho]
      rw [e0] at h ⊢
      rw [if_neg (by omega)] at hu
      cases hm : muB d x y x y with
      | false =>
        have e : lsR d x y true = ((muR d x y x y).1, (muR d x y x y).2, false) := by unfold lsR; rw [hp, hm]; rfl
        rw [e] at h
        cases h
      | true =>
        have e : lsR d x y true = (muX d x y x y, muY x y x y, true) := by unfold lsR muR; rw [hp, hm]; rfl
        rw [e]
        show nrm d (muX d x y x y) (muY x y x y) = 1
        have e : nrm d (muX d x y x y) (muY x y x y) = nrm d x y * nrm d x y := by unfold nrm muX muY; grind
        rw [e, hu]; rfl
    · have e0 : odN n = false := by simp [odN, ho]
      rw [e0]
      rw [if_pos (by omega)] at hu
      have e : lsR d x y false = (x, y, true) := by unfold lsR; rw [hp]; rfl
      rw [e]
      exact hu
theorem least_both1 (d : Int) (h1 : 2 ≤ d) (h2 : d ≤ 10000) (hs : sqB d = false) : ∃ (X Y : Int) (ok : Bool), LsOk d X Y ok ∧ (ok = true → nrm d X Y = 1) ∧
    (∀ w : World, Calls Try.prog 53 #[.int .i64 d] w (RetLs X Y ok w)) ∧ (∀ w : World, Calls Try.prog 56 #[.int .i64 d] w (RetLs X Y ok w)) := by
  obtain ⟨D, r, n, H⟩ := perI_of h1 h2 hs
  exact ⟨_, _, _, lsOk_of H, least_nrm H, fun w => (leastPell_any d D r n H w).mono fun e w' h => ⟨_, _, h.1, fun _ => ⟨rfl, rfl⟩, h.2⟩, fun w => l09Least_any d D r n H w⟩
/-- The next solution of a class is one of it. -/
theorem next_of (d n x y : Int) (he : eqC d n = 0) (hp : isS d n x y = true) : ∃ m1 m2 m3 : Int,
    (∀ w : World, Calls Try.prog 28 #[.int .i64 d, .agg #[.int .i64 x, .int .i64 y]] w fun e w' => e = .returned (.tuple #[.agg #[.int .i64 m1, .int .i64 m2], .int .i64 m3]) ∧ Below w.heap.size w w') ∧
    (m3 = 0 → isS d n m1 m2 = true ∧ ∀ L k, fnC d n m1 m2 L k = fnC d n x y L k) := by
  obtain ⟨⟨hd, hn, hn0⟩, hs⟩ := eqC_zero he
  have hpl := isS_ok hp
  have h0 : pcC d (pOk d x y) = 0 := by rw [hpl]; exact pcC_ok (inR_iff.2 (by omega)) hs
  obtain ⟨X, Y, ok, HL, HN, LI, LS⟩ := least_both1 d hd.1 (by omega) hs
  cases ok
  · exact ⟨_, _, _, fun w => iNext_full d x y X Y w h0 LI, fun h => by simp at h⟩
  · have hp2 := HL.pl rfl
    have hu := HN rfl
    refine ⟨_, _, _, fun w => iNext_mul d x y X Y _ _ _ w h0 LI (fun w => iMul_ok d x y X Y w (by omega) hs hpl hp2), ?_⟩
    cases hm : muB d x y X Y
    · rw [muN_no hm]
      intro h; simp at h
    · rw [muN_yes hm]
      intro _
      refine ⟨?_, fun L k => fnC_next hu L k⟩
      simp only [isS, Bool.and_eq_true, beq_iff_eq] at hp ⊢
      unfold muB at hm
      simp only [Bool.and_eq_true] at hm
      exact ⟨hm.2, by rw [nrm_mul hu]; exact hp.2⟩
theorem pmF_mod {d n : Int} : ∀ k m, 0 < m → (pmF d n k m).2 = 0 → ∃ m', 0 < m' ∧ noY d n m' m' 0 = true := by
  intro k
  induction k with
  | zero => intro m _ h; simp [pmF] at h
  | succ k ih =>
    intro m hm h
    cases hc : noY d n m m 0
    · rw [pm_no hc] at h
      exact ih (m + 1) (by omega) h
    · exact ⟨m, hm, hc⟩
/-- A proof means that there is no solution. -/
theorem pm_none {d n x y : Int} (h : (pmR d n).2 = 0) (hp : isS d n x y = true) : False := by
  unfold pmR at h
  split at h
  · obtain ⟨m, hm, hc⟩ := pmF_mod 99 2 (by omega) h
    simp only [isS, Bool.and_eq_true, beq_iff_eq] at hp
    exact noY_none hm hc hp.2
  · rename_i hc; exact hc h
/-- What both packages find, and that these are classes. -/
theorem cs_norm (d n : Int) : ∃ (L : List Pp) (c : Int), L.length ≤ 1000000 ∧ (c = 0 → eqC d n = 0 ∧ PlA d L ∧ ClOk d n L ∧ (∃ N : Int,
      (∀ w : World, Calls Try.prog 52 #[.int .i64 d, .int .i64 n] w fun e w' => e = .returned (.tuple #[.int .i64 N, .int .i64 0]) ∧ Below w.heap.size w w') ∧
      (∀ w : World, Calls Try.prog 61 #[.int .i64 d, .int .i64 n, .int .i64 N] w (RetL1 25 2 gP w L)))) ∧
    (c ≠ 0 → L = [] ∧ ∃ N : Int, ∀ w : World, Calls Try.prog 52 #[.int .i64 d, .int .i64 n] w fun e w' => e = .returned (.tuple #[.int .i64 N, .int .i64 c]) ∧ Below w.heap.size w w') ∧
    (∀ w : World, Calls Try.prog 35 #[.int .i64 d, .int .i64 n] w (RetL 25 2 gP w L c)) ∧
    (∀ w : World, Calls Try.prog 34 #[.int .i64 d, .int .i64 n] w (RetL 25 2 gP w L c)) := by
  obtain ⟨M, k, hk, HI, HS⟩ := look_both2 d n
  by_cases hk0 : k = 0
  · obtain ⟨hc, m0, m1⟩ := hk hk0
    obtain ⟨⟨hd, hn, hn0⟩, -⟩ := eqC_zero hc
    obtain ⟨N, rfl⟩ := Int.eq_ofNat_of_zero_le m0
    subst hk0
    have hl := cs_len d n (N + 1)
    exact ⟨csF d n (N + 1), 0, by omega, fun _ => ⟨hc, cs_pl hd hn _ (by omega), cs_ok hd hn _ (by omega), _, HS, fun w => l10Classes_any d n N w hd hn hn0 (by omega)⟩, fun h => absurd rfl h, fun w => iCS_any d n N w hd hn hn0 (by omega) HI,
      fun w => sCS_any d n _ N w HS (fun w => l10Classes_any d n N w hd hn hn0 (by omega))⟩
  · exact ⟨[], k, by simp, fun h => absurd h hk0, fun _ => ⟨rfl, M, HS⟩, fun w => iCS_bad d n M k w hk0 HI, fun w => sCS_bad d n M k w hk0 HS⟩
end Go.Proofs.Ytdbbjmcfpfalhaa
