/- Plain laws of forms with a discriminant above nought: the next form of a reduced one is reduced, no two have the same next one, and the way leads back. -/
import Derived.Test.YtolbihoeheogkaaDoorFmsK
namespace Go.Proofs.YtolbihoeheogkaaDoor
open Go.ChangeShapes Go.WideShapes Go.ChangeAt Go.RowKit
set_option linter.unusedVariables false
set_option maxHeartbeats 1000000
/-- A reduced plain form with the discriminant d. -/
def Pd (d : Int) (f : Fm) : Prop := vFm f = true ∧ redF f.a f.b f.c = true ∧ dFm f = d
theorem redsym {b d r A C : Int} (hr : 0 ≤ r) (r1 : r * r < d) (r2 : d < (r + 1) * (r + 1)) (hb : 0 < b) (hbr : b ≤ r) (h1 : r - b < A) (h2 : A ≤ r + b) (hC : 0 ≤ C) (he : A * C = d - b * b) : r - b < C ∧ C ≤ r + b := by
  constructor
  · rcases Int.lt_or_le (r - b) C with h | h
    · exact h
    · have q := Int.mul_le_mul h2 h hC (by omega)
      have q2 : (r + b) * (r - b) = r * r - b * b := by grind
      omega
  · rcases Int.lt_or_le (r + b) C with h | h
    · have q := Int.mul_le_mul (show r - b + 1 ≤ A by omega) (show r + b + 1 ≤ C by omega) (by omega) (by omega)
      have q2 : (r - b + 1) * (r + b + 1) = (r + 1) * (r + 1) - b * b := by grind
      omega
    · exact h
theorem vF_nsq {a b c : Int} (h : vF a b c = true) : sqB (dF a b c) = false := by
  simp only [vF, Bool.and_eq_true] at h
  simpa using h.1.2
theorem vF_gcd {a b c : Int} (h : vF a b c = true) : gI (gI a b) c = 1 := by
  simp only [vF, Bool.and_eq_true] at h
  simpa using h.1.1.2
theorem vF_mk {a b c : Int} (ha : -10000 ≤ a ∧ a ≤ 10000) (hb : -10000 ≤ b ∧ b ≤ 10000) (hc : -10000 ≤ c ∧ c ≤ 10000) (hg : gI (gI a b) c = 1) (hs : sqB (dF a b c) = false) (hp : 0 < dF a b c ∨ 0 < a) : vF a b c = true := by
  simp only [vF, Bool.and_eq_true, inF_iff]
  refine ⟨⟨⟨⟨⟨ha, hb⟩, hc⟩, by simpa using hg⟩, by simpa using hs⟩, by simpa using hp⟩
theorem nsq_ne {d : Int} (h0 : 0 ≤ d) (h : sqB d = false) : rt d * rt d ≠ d := by
  intro e
  unfold sqB at h
  simp [h0, e] at h
/-- What is known of a reduced form. -/
structure Rd (d r : Int) (f : Fm) : Prop where
  r0 : 0 ≤ r
  r44 : r ≤ 44
  r1 : r * r < d
  r2 : d < (r + 1) * (r + 1)
  b0 : 0 < f.b
  b1 : f.b ≤ r
  a0 : r - f.b < 2 * ab f.a
  a1 : 2 * ab f.a ≤ r + f.b
  c0 : r - f.b < 2 * ab f.c
  c1 : 2 * ab f.c ≤ r + f.b
  ac : 4 * (ab f.a * ab f.c) = d - f.b * f.b
  disc : d = f.b * f.b - 4 * f.a * f.c
  cn : f.c ≠ 0
  an : f.a ≠ 0
theorem pd_rd {d : Int} {f : Fm} (h0 : 0 < d) (h2 : d ≤ 2000) (h : Pd d f) : Rd d (rt d) f := by
  obtain ⟨hv, hr, hd⟩ := h
  have hd' : dF f.a f.b f.c = d := hd
  have hd2 : d = f.b * f.b - 4 * f.a * f.c := hd'.symm
  rw [red_iff_pos (by omega), hd'] at hr
  obtain ⟨s0, s1, s2⟩ := rt_spec (n := d) (by omega) (by omega)
  have ns := nsq_ne (d := d) (by omega) (by have := vF_nsq hv; rwa [hd'] at this)
  have s44 := rt_le (n := d) (B := 44) (by omega) (by omega) (by omega) (by omega)
  obtain ⟨b0, b1, a0, a1⟩ := hr
  have q := sq_le_sq (a := f.b) (b := rt d) (by omega) b1
  have e : 4 * (ab f.a * ab f.c) = d - f.b * f.b := by
    have e1 : 4 * (ab f.a * ab f.c) = ab (4 * f.a * f.c) := by
      rw [ab_mul, ab_mul]
      have : ab 4 = 4 := rfl
      rw [this, Int.mul_assoc]
    have e2 : 4 * f.a * f.c = f.b * f.b - d := by omega
    rw [e1, e2]
    unfold ab
    omega
  have e3 : 2 * ab f.a * (2 * ab f.c) = d - f.b * f.b := by rw [← e]; grind
  have := redsym (d := d) (r := rt d) (b := f.b) (A := 2 * ab f.a) (C := 2 * ab f.c) s0 (by omega) s2 b0 b1 a0 a1 (by have := ab_nonneg f.c; omega) e3
  have cn := vF_c hv
  have an : f.a ≠ 0 := by
    intro h
    rw [h] at a0
    have : ab 0 = 0 := rfl
    rw [this] at a0
    omega
  exact ⟨s0, s44, by omega, s2, b0, b1, a0, a1, this.1, this.2, e, hd2, cn, an⟩
theorem gcd_step {a b c n B C : Int} (hB : B + b = 2 * c * n) (hC : C = a - b * n + c * n * n) (g : gI (gI a b) c = 1) : gI (gI c B) C = 1 := by
  have k1 := gI_dvd_left (gI c B) C
  have kc : gI (gI c B) C ∣ c := Int.dvd_trans k1 (gI_dvd_left c B)
  have kB : gI (gI c B) C ∣ B := Int.dvd_trans k1 (gI_dvd_right c B)
  have kC := gI_dvd_right (gI c B) C
  have kn := gI_nonneg (gI c B) C
  generalize gI (gI c B) C = k at *
  have kb : k ∣ b := by
    have e : b = 2 * c * n - B := by omega
    rw [e]
    refine Int.dvd_sub ?_ kB
    rw [Int.mul_assoc]
    exact Int.dvd_trans (Int.dvd_trans kc (Int.dvd_mul_right c n)) (Int.dvd_mul_left 2 (c * n))
  have ka : k ∣ a := by
    have e : a = C + b * n - c * n * n := by omega
    rw [e]
    refine Int.dvd_sub (Int.dvd_add kC (Int.dvd_trans kb (Int.dvd_mul_right b n))) ?_
    rw [Int.mul_assoc]
    exact Int.dvd_trans kc (Int.dvd_mul_right c _)
  have kg : k ∣ gI a b := by unfold gI; exact Int.dvd_coe_gcd ka kb
  have k2 : k ∣ gI (gI a b) c := by unfold gI; exact Int.dvd_coe_gcd (by unfold gI at kg; exact kg) kc
  rw [g] at k2
  exact Int.eq_one_of_dvd_one kn k2
theorem pos_mul {c n x : Int} (h : x = 2 * c * n) (hx : 0 < x) : 2 * ab c ≤ x := by
  have e : ab x = 2 * (ab c * ab n) := by
    rw [h, ab_mul, ab_mul, Int.mul_assoc]
    rfl
  have e2 : ab x = x := ab_pos (by omega)
  have hn : 1 ≤ ab n := by
    have : n ≠ 0 := by
      intro hn
      rw [hn] at h
      omega
    unfold ab
    omega
  have := Int.mul_le_mul_of_nonneg_left hn (ab_nonneg c)
  omega
theorem stp_b {d : Int} {f : Fm} (hc : f.c ≠ 0) (hd : dF f.a f.b f.c = d) (hh : hiF f.c d = rt d) (h5 : d ≤ 500000000) (hcb : -10000 ≤ f.c ∧ f.c ≤ 10000) :
    rt d - 2 * ab f.c < (stp f).b ∧ (stp f).b ≤ rt d ∧ (stp f).b + f.b = 2 * f.c * stN f.b f.c d := by
  obtain ⟨g1, g2, g3, g4⟩ := stB_facts (b := f.b) (d := d) hc h5 hcb
  rw [hh] at g3
  have e : (stp f).b = stB f.b f.c d := by rw [← hd]; rfl
  rw [e]
  exact ⟨g3.1, g3.2, g4⟩
theorem pd_hi {d : Int} {f : Fm} (h0 : 0 < d) (h : Rd d (rt d) f) : hiF f.c d = rt d := by
  have := h.c1
  have := h.b1
  rcases hiF_cases f.c d with h1 | h1 | h1
  · omega
  · exact h1.2.2
  · omega
theorem pd_in {d r : Int} {f : Fm} (h : Rd d r f) : (-44 ≤ f.a ∧ f.a ≤ 44) ∧ (0 < f.b ∧ f.b ≤ 44) ∧ (-44 ≤ f.c ∧ f.c ≤ 44) := by
  have h1 := h.r44
  have h2 := h.b1
  have h3 := h.a1
  have h4 := h.c1
  have h5 := h.b0
  unfold ab at h3 h4
  omega
/-- The next form of a reduced one is reduced, with the same discriminant. -/
theorem pd_step {d : Int} {f : Fm} (h0 : 0 < d) (h2 : d ≤ 2000) (h : Pd d f) : Pd d (stp f) := by
  have R := pd_rd h0 h2 h
  obtain ⟨i1, i2, i3⟩ := pd_in R
  have hd : dF f.a f.b f.c = d := h.2.2
  have hh := pd_hi h0 R
  obtain ⟨g1, g2, g3⟩ := stp_b R.cn hd hh (by omega) ⟨by omega, by omega⟩
  have hc1 := R.c1
  have hb1 := R.b1
  have hpos : 0 < (stp f).b + f.b := by omega
  have hm := pos_mul g3 hpos
  have b0 : 0 < (stp f).b := by
    rcases Int.lt_or_le (rt d) (2 * ab f.c) with h3 | h3 <;> omega
  have hdd : dFm (stp f) = d := by rw [dFm_stp h.1]; exact h.2.2
  have ea : (stp f).a = f.c := rfl
  have hr : redF (stp f).a (stp f).b (stp f).c = true := by
    have hdd' : dF (stp f).a (stp f).b (stp f).c = d := hdd
    rw [red_iff_pos (by omega), hdd', ea]
    exact ⟨b0, g2, by omega, by omega⟩
  have heC : 4 * (ab f.c * ab (stp f).c) = d - (stp f).b * (stp f).b := by
    have e1 : 4 * (ab f.c * ab (stp f).c) = ab (4 * f.c * (stp f).c) := by
      rw [ab_mul, ab_mul]
      have : ab 4 = 4 := rfl
      rw [this, Int.mul_assoc]
    have e3 : d = (stp f).b * (stp f).b - 4 * (stp f).a * (stp f).c := hdd.symm
    rw [ea] at e3
    have e2 : 4 * f.c * (stp f).c = (stp f).b * (stp f).b - d := by omega
    have q := sq_le_sq (a := (stp f).b) (b := rt d) (by omega) g2
    have := R.r1
    rw [e1, e2]
    unfold ab
    omega
  have hC : ab (stp f).c ≤ 500 := by
    have q1 : 0 ≤ (stp f).b * (stp f).b := Int.mul_nonneg (by omega) (by omega)
    have q2 : 1 ≤ ab f.c := by have := R.cn; unfold ab; omega
    have q3 := Int.mul_le_mul_of_nonneg_right q2 (ab_nonneg (stp f).c)
    omega
  have hv : vFm (stp f) = true := by
    refine vF_mk ⟨by rw [ea]; omega, by rw [ea]; omega⟩ ⟨by omega, by have := R.r44; omega⟩ ⟨by unfold ab at hC; omega, by unfold ab at hC; omega⟩ ?_ ?_ (.inl ?_)
    · refine gcd_step (n := stN f.b f.c d) ?_ ?_ (vF_gcd h.1)
      · rw [ea]; exact g3
      · show stC f.a f.b f.c (dF f.a f.b f.c) = _
        rw [hd]
        rfl
    · have hdd' : dF (stp f).a (stp f).b (stp f).c = d := hdd
      rw [hdd', ← hd]
      exact vF_nsq h.1
    · have hdd' : dF (stp f).a (stp f).b (stp f).c = d := hdd
      rw [hdd']
      exact h0
  exact ⟨hv, hr, hdd⟩
theorem eq_of_mul {c m : Int} (h : ab (2 * c * m) < 2 * ab c) : m = 0 := by
  rw [ab_mul, ab_mul] at h
  have e : ab 2 = 2 := rfl
  rw [e] at h
  rcases Int.lt_or_le 0 (ab m) with h1 | h1
  · have := Int.mul_le_mul_of_nonneg_left (show 1 ≤ ab m by omega) (show 0 ≤ 2 * ab c by have := ab_nonneg c; omega)
    omega
  · unfold ab at h1
    omega
/-- No two reduced forms have the same next one. -/
theorem pd_inj {d : Int} {f g : Fm} (h0 : 0 < d) (h2 : d ≤ 2000) (hf : Pd d f) (hg : Pd d g) (e : stp f = stp g) : f = g := by
  have F := pd_rd h0 h2 hf
  have G := pd_rd h0 h2 hg
  obtain ⟨i1, i2, i3⟩ := pd_in F
  have ec : f.c = g.c := congrArg Fm.a e
  obtain ⟨g1, g2, g3⟩ := stp_b F.cn hf.2.2 (pd_hi h0 F) (by omega) ⟨by omega, by omega⟩
  obtain ⟨k1, k2, k3⟩ := stp_b G.cn hg.2.2 (pd_hi h0 G) (by omega) ⟨by omega, by omega⟩
  rw [← e, ← ec] at k3
  have eb : f.b = g.b := by
    have e1 : f.b - g.b = 2 * f.c * (stN f.b f.c d - stN g.b f.c d) := by
      rw [Int.mul_sub]
      omega
    have f1 := F.c0
    have f2 := F.b1
    have f3 := G.c0
    have f4 := G.b1
    rw [← ec] at f3
    have e2 := eq_of_mul (c := f.c) (m := stN f.b f.c d - stN g.b f.c d) (by rw [← e1]; unfold ab at *; omega)
    rw [e2] at e1
    omega
  have ea : f.a = g.a := by
    have f1 := F.disc
    have f2 := G.disc
    rw [← eb, ← ec] at f2
    have h4 : 4 * f.a * f.c = 4 * g.a * f.c := by omega
    have := Int.eq_of_mul_eq_mul_right F.cn h4
    omega
  obtain ⟨x, y, z⟩ := f
  obtain ⟨x', y', z'⟩ := g
  simp only at *
  subst ea eb ec
  rfl
/-- The form k steps on. -/
def itF (f : Fm) : Nat → Fm
  | 0 => f
  | k + 1 => stp (itF f k)
theorem pd_it {d : Int} {f : Fm} (h0 : 0 < d) (h2 : d ≤ 2000) (h : Pd d f) (k : Nat) : Pd d (itF f k) := by
  induction k with
  | zero => exact h
  | succ k ih => exact pd_step h0 h2 ih
theorem it_add (f : Fm) (i j : Nat) : itF f (i + j) = itF (itF f i) j := by
  induction j with
  | zero => rfl
  | succ j ih => show stp (itF f (i + j)) = stp (itF (itF f i) j); rw [ih]
theorem it_cancel {d : Int} {f : Fm} (h0 : 0 < d) (h2 : d ≤ 2000) (h : Pd d f) : ∀ i j : Nat, itF f i = itF f (i + j) → itF f j = f := by
  intro i
  induction i with
  | zero => intro j e; rw [Nat.zero_add] at e; exact e.symm
  | succ i ih =>
    intro j e
    refine ih j (pd_inj h0 h2 (pd_it h0 h2 h i) (pd_it h0 h2 h (i + j)) ?_)
    rw [Nat.succ_add] at e
    exact e
theorem getD_at {α : Type} (L : List α) (z : α) {i : Nat} (h : i < L.length) : L.getD i z = L[i] := by simp [List.getD, h]
theorem php : ∀ (n : Nat) (f : Nat → Nat) (M : List Nat), (∀ i, i < n → f i ∈ M) → (∀ i j, i < j → j < n → f i ≠ f j) → n ≤ M.length := by
  intro n
  induction n with
  | zero => intro f M _ _; omega
  | succ n ih =>
    intro f M h1 h2
    have hm := h1 n (by omega)
    have := ih f (M.erase (f n)) (fun i hi => (List.mem_erase_of_ne (h2 i n hi (by omega))).2 (h1 i (by omega))) (fun i j hij hj => h2 i j hij (by omega))
    rw [List.length_erase_of_mem hm] at this
    have : 0 < M.length := List.length_pos_of_mem hm
    omega
/-- The places (second number, first number) that a reduced form with the second number b may have. -/
def rowW (b h : Nat) : Nat → List Nat
  | 0 => []
  | t + 1 => (b * 89 + (44 + (h + 1 + t))) :: (b * 89 + (44 - (h + 1 + t))) :: rowW b h t
theorem rowW_len (b h t : Nat) : (rowW b h t).length = 2 * t := by
  induction t with
  | zero => rfl
  | succ t ih => show (rowW b h t).length + 1 + 1 = _; omega
theorem mem_rowW {b h s : Nat} : ∀ t, s < t → b * 89 + (44 + (h + 1 + s)) ∈ rowW b h t ∧ b * 89 + (44 - (h + 1 + s)) ∈ rowW b h t := by
  intro t
  induction t with
  | zero => intro h; omega
  | succ t ih =>
    intro hs
    rcases Nat.lt_or_ge s t with h1 | h1
    · obtain ⟨i1, i2⟩ := ih h1
      exact ⟨List.mem_cons_of_mem _ (List.mem_cons_of_mem _ i1), List.mem_cons_of_mem _ (List.mem_cons_of_mem _ i2)⟩
    · have e : s = t := by omega
      subst e
      exact ⟨List.mem_cons_self, List.mem_cons_of_mem _ List.mem_cons_self⟩
def allW (r p : Nat) : Nat → List Nat
  | 0 => []
  | b + 1 => (if b % 2 = p then rowW b ((r - b) / 2) (if b < 44 then b else 16) else []) ++ allW r p b
def allS (p : Nat) : Nat → Nat
  | 0 => 0
  | b + 1 => (if b % 2 = p then 2 * (if b < 44 then b else 16) else 0) + allS p b
theorem allW_len (r p n : Nat) : (allW r p n).length = allS p n := by
  induction n with
  | zero => rfl
  | succ n ih =>
    unfold allW allS
    rw [List.length_append, ih]
    split
    · rw [rowW_len]
    · rfl
theorem allS_le {p : Nat} (hp : p < 2) : allS p 45 ≤ 968 := by
  have : p = 0 ∨ p = 1 := by omega
  rcases this with rfl | rfl <;> decide
theorem mem_allW {r p b : Nat} (hb : b % 2 = p) {x : Nat} (h : x ∈ rowW b ((r - b) / 2) (if b < 44 then b else 16)) : ∀ n, b < n → x ∈ allW r p n := by
  intro n
  induction n with
  | zero => intro h; omega
  | succ n ih =>
    intro hn
    unfold allW
    rw [List.mem_append]
    rcases Nat.lt_or_ge b n with h1 | h1
    · exact .inr (ih h1)
    · have e : b = n := by omega
      subst e
      rw [if_pos hb]
      exact .inl h
def cdF (f : Fm) : Nat := f.b.toNat * 89 + (f.a + 44).toNat
theorem place_of {r b n : Nat} (hb : 0 < b) (hbr : b ≤ r) (h1 : r < 2 * n + b) (h2 : 2 * n ≤ r + b) (h16 : b < 44 ∨ n ≤ 16) (hr : r ≤ 44) : ∃ s, n = (r - b) / 2 + 1 + s ∧ s < (if b < 44 then b else 16) := by
  refine ⟨n - 1 - (r - b) / 2, by omega, ?_⟩
  split <;> omega
theorem sq_par {b d m : Int} (e : d = b * b - 2 * m) : b % 2 = d % 2 := by
  have e2 : d % 2 = b * b % 2 := by omega
  rw [e2, Int.mul_emod]
  rcases Int.emod_two_eq b with h1 | h1 <;> rw [h1] <;> rfl
theorem cd_mem {d : Int} {f : Fm} (h0 : 0 < d) (h2 : d ≤ 2000) (h : Pd d f) : cdF f ∈ allW (rt d).toNat (d % 2).toNat 45 := by
  have R := pd_rd h0 h2 h
  obtain ⟨i1, i2, i3⟩ := pd_in R
  unfold cdF
  have hp : f.b.toNat % 2 = (d % 2).toNat := by
    have e := R.disc
    have e0 : 4 * f.a * f.c = 2 * (2 * (f.a * f.c)) := by rw [Int.mul_assoc 4, ← Int.mul_assoc 2 2]; rfl
    have e1 := sq_par (b := f.b) (d := d) (m := 2 * (f.a * f.c)) (by rw [← e0]; exact e)
    clear e e0
    omega
  have h16 : f.b < 44 ∨ ab f.a ≤ 16 := by
    rcases Int.lt_or_le f.b 44 with h1 | h1
    · exact .inl h1
    · right
      have e := R.ac
      have eb : f.b = 44 := by omega
      rw [eb] at e
      have q2 : 1 ≤ ab f.c := by have := R.cn; unfold ab; omega
      have q3 := Int.mul_le_mul_of_nonneg_left q2 (ab_nonneg f.a)
      omega
  have a0 := R.a0
  have a1 := R.a1
  have b1 := R.b1
  have r0 := R.r0
  have an := ab_nonneg f.a
  have h44 : rt d ≤ 44 := R.r44
  have hs1 := ab_sign f.a
  clear R h
  generalize ab f.a = A at *
  generalize rt d = r at *
  obtain ⟨r, rfl⟩ := Int.eq_ofNat_of_zero_le r0
  obtain ⟨A, rfl⟩ := Int.eq_ofNat_of_zero_le an
  obtain ⟨x, y, z⟩ := f
  simp only at *
  obtain ⟨y, rfl⟩ := Int.eq_ofNat_of_zero_le (by omega : 0 ≤ y)
  obtain ⟨s, hs, hst⟩ := place_of (r := r) (b := y) (n := A) (by omega) (by omega) (by omega) (by omega) (by omega) (by omega)
  have hm := mem_rowW (b := y) (h := (r - y) / 2) _ hst
  rw [← hs] at hm
  refine mem_allW hp (b := y) ?_ 45 (by omega)
  rcases hs1 with h1 | h1
  · have e : (x + 44).toNat = 44 + A := by omega
    rw [e]
    exact hm.1
  · have e : (x + 44).toNat = 44 - A := by omega
    rw [e]
    exact hm.2
theorem cd_inj {d : Int} {f g : Fm} (h0 : 0 < d) (h2 : d ≤ 2000) (hf : Pd d f) (hg : Pd d g) (e : cdF f = cdF g) : f = g := by
  have F := pd_rd h0 h2 hf
  have G := pd_rd h0 h2 hg
  obtain ⟨i1, i2, i3⟩ := pd_in F
  obtain ⟨k1, k2, k3⟩ := pd_in G
  unfold cdF at e
  have ea : f.a = g.a := by omega
  have eb : f.b = g.b := by omega
  have f1 := F.disc
  have f2 := G.disc
  rw [← ea, ← eb] at f2
  have h4 : 4 * f.a * f.c = 4 * f.a * g.c := by omega
  have ec := Int.eq_of_mul_eq_mul_left (by have := F.an; omega) h4
  obtain ⟨x, y, z⟩ := f
  obtain ⟨x', y', z'⟩ := g
  simp only at *
  subst ea eb ec
  rfl
theorem pd_back {d : Int} {f : Fm} (h0 : 0 < d) (h2 : d ≤ 2000) (h : Pd d f) : ∃ k, 1 ≤ k ∧ k ≤ 968 ∧ itF f k = f := by
  refine Classical.byContradiction fun hn => ?_
  have R := pd_rd h0 h2 h
  have hl : (allW (rt d).toNat (d % 2).toNat 45).length ≤ 968 := by
    rw [allW_len]
    exact allS_le (by omega)
  have := php 969 (fun i => cdF (itF f i)) _ (fun i _ => cd_mem h0 h2 (pd_it h0 h2 h i)) (fun i j hij hj e => by
    have e1 := cd_inj h0 h2 (pd_it h0 h2 h i) (pd_it h0 h2 h j) e
    have e2 := it_cancel h0 h2 h i (j - i) (by rw [e1]; congr 1; omega)
    exact hn ⟨j - i, by omega, by omega, e2⟩)
  omega
theorem least_nat {P : Nat → Prop} : ∀ n, P n → ∃ m, m ≤ n ∧ P m ∧ ∀ j, j < m → ¬ P j := by
  intro n
  induction n using Nat.strongRecOn with
  | ind n ih =>
    intro h
    by_cases hx : ∃ j, j < n ∧ P j
    · obtain ⟨j, hj, hp⟩ := hx
      obtain ⟨m, h1, h2, h3⟩ := ih j hj hp
      exact ⟨m, by omega, h2, h3⟩
    · exact ⟨n, Nat.le_refl _, h, fun j hj hp => hx ⟨j, hj, hp⟩⟩
theorem pd_per {d : Int} {f : Fm} (h0 : 0 < d) (h2 : d ≤ 2000) (h : Pd d f) : ∃ k, 1 ≤ k ∧ k ≤ 968 ∧ itF f k = f ∧ ∀ j, 1 ≤ j → j < k → itF f j ≠ f := by
  obtain ⟨k, k1, k2, k3⟩ := pd_back h0 h2 h
  obtain ⟨m, m1, m2, m3⟩ := least_nat (P := fun k => 1 ≤ k ∧ itF f k = f) k ⟨k1, k3⟩
  exact ⟨m, m2.1, by omega, m2.2, fun j j1 j2 e => m3 j j2 ⟨j1, e⟩⟩
/-- The first k forms of the way. -/
def iL (f : Fm) : Nat → List Fm
  | 0 => []
  | k + 1 => iL f k ++ [itF f k]
theorem iL_len (f : Fm) (k : Nat) : (iL f k).length = k := by
  induction k with
  | zero => rfl
  | succ k ih => simp [iL, ih]
theorem mem_iL {f x : Fm} {k : Nat} : x ∈ iL f k ↔ ∃ j, j < k ∧ x = itF f j := by
  induction k with
  | zero => simp [iL]
  | succ k ih =>
    simp only [iL, List.mem_append, List.mem_singleton, ih]
    constructor
    · rintro (⟨j, h1, h2⟩ | h)
      · exact ⟨j, by omega, h2⟩
      · exact ⟨k, by omega, h⟩
    · rintro ⟨j, h1, h2⟩
      rcases Nat.lt_or_ge j k with h3 | h3
      · exact .inl ⟨j, h3, h2⟩
      · have e : j = k := by omega
        subst e
        exact .inr h2
theorem iL_getq (f : Fm) (k : Nat) : ∀ j, j < k → (iL f k)[j]? = some (itF f j) := by
  induction k with
  | zero => intro j h; omega
  | succ k ih =>
    intro j h
    have hl := iL_len f k
    have e : iL f (k + 1) = iL f k ++ [itF f k] := rfl
    rw [e]
    rcases Nat.lt_or_ge j k with h1 | h1
    · rw [List.getElem?_append_left (by omega)]
      exact ih j h1
    · have e : j = k := by omega
      rw [List.getElem?_append_right (by omega), hl, e]
      simp
theorem iL_get (f : Fm) (k : Nat) (j : Nat) (h : j < (iL f k).length) : (iL f k)[j] = itF f j := by
  have hl := iL_len f k
  have h1 := iL_getq f k j (by omega)
  rw [List.getElem?_eq_getElem h] at h1
  exact Option.some.inj h1
theorem cy_run {d : Int} {f : Fm} (h0 : 0 < d) (h2 : d ≤ 2000) (h : Pd d f) {k : Nat} (hk : itF f k = f) (hn : ∀ j, 1 ≤ j → j < k → itF f j ≠ f) :
    ∀ t i fuel, 1 ≤ i → i + t = k → t + 1 ≤ fuel → cyF f fuel (itF f i) (iL f i) = some (iL f k) := by
  intro t
  induction t with
  | zero =>
    intro i fuel h1 hi hf
    have e : i = k := by omega
    subst e
    obtain ⟨u, rfl⟩ : ∃ u, fuel = u + 1 := ⟨fuel - 1, by omega⟩
    exact cy_eq (eqFm_iff.2 hk)
  | succ t ih =>
    intro i fuel h1 hi hf
    obtain ⟨u, rfl⟩ : ∃ u, fuel = u + 1 := ⟨fuel - 1, by omega⟩
    rw [cy_go (by
      cases hx : eqFm (itF f i) f
      · rfl
      · exact absurd (eqFm_iff.1 hx) (hn i h1 (by omega))) (pd_it h0 h2 h i).1]
    exact ih (i + 1) u (by omega) (by omega) (by omega)
/-- The cycle of a reduced form: the forms of its way, each once. -/
theorem cy_all {d : Int} {f : Fm} (h0 : 0 < d) (h2 : d ≤ 2000) (h : Pd d f) : ∃ k, 1 ≤ k ∧ k ≤ 968 ∧ cyR f = some (iL f k) ∧ itF f k = f ∧ ∀ j, 1 ≤ j → j < k → itF f j ≠ f := by
  obtain ⟨k, k1, k2, k3, k4⟩ := pd_per h0 h2 h
  refine ⟨k, k1, k2, ?_, k3, k4⟩
  have hd : dF f.a f.b f.c = d := h.2.2
  unfold cyR
  rw [if_neg (by omega)]
  exact cy_run h0 h2 h k3 k4 (k - 1) 1 1000 (by omega) (by omega) (by omega)
theorem it_mod {f : Fm} {k : Nat} (h1 : 1 ≤ k) (hk : itF f k = f) : ∀ j, ∃ i, i < k ∧ itF f j = itF f i := by
  intro j
  induction j with
  | zero => exact ⟨0, by omega, rfl⟩
  | succ j ih =>
    obtain ⟨i, hi, e⟩ := ih
    have e2 : itF f (j + 1) = itF f (i + 1) := by show stp (itF f j) = stp (itF f i); rw [e]
    rcases Nat.lt_or_ge (i + 1) k with h | h
    · exact ⟨i + 1, h, e2⟩
    · have e3 : i + 1 = k := by omega
      exact ⟨0, by omega, by rw [e2, e3, hk]; rfl⟩
/-- Is a form on the way of another? -/
def inC (f x : Fm) : Bool := (olF (cyR f)).1.any (fun y => eqFm y x)
theorem inC_iff {d : Int} {f x : Fm} (h0 : 0 < d) (h2 : d ≤ 2000) (h : Pd d f) : inC f x = true ↔ ∃ j, x = itF f j := by
  obtain ⟨k, k1, k2, k3, k4, k5⟩ := cy_all h0 h2 h
  unfold inC
  rw [k3]
  show (iL f k).any _ = true ↔ _
  rw [List.any_eq_true]
  constructor
  · rintro ⟨y, hy, e⟩
    obtain ⟨j, -, e2⟩ := mem_iL.1 hy
    exact ⟨j, by rw [← eqFm_iff.1 e, e2]⟩
  · rintro ⟨j, e⟩
    obtain ⟨i, hi, e2⟩ := it_mod k1 k4 j
    exact ⟨x, mem_iL.2 ⟨i, hi, by rw [e, e2]⟩, eqFm_iff.2 rfl⟩
theorem inC_self {d : Int} {f : Fm} (h0 : 0 < d) (h2 : d ≤ 2000) (h : Pd d f) : inC f f = true := (inC_iff h0 h2 h).2 ⟨0, rfl⟩
theorem inC_step {d : Int} {f x : Fm} (h0 : 0 < d) (h2 : d ≤ 2000) (h : Pd d f) (hx : inC f x = true) (j : Nat) : inC f (itF x j) = true := by
  obtain ⟨i, e⟩ := (inC_iff h0 h2 h).1 hx
  exact (inC_iff h0 h2 h).2 ⟨i + j, by rw [e, it_add]⟩
theorem inC_trans {d : Int} {f x y : Fm} (h0 : 0 < d) (h2 : d ≤ 2000) (h : Pd d f) (hp : Pd d x) (hx : inC f x = true) (hy : inC x y = true) : inC f y = true := by
  obtain ⟨j, e⟩ := (inC_iff h0 h2 hp).1 hy
  rw [e]
  exact inC_step h0 h2 h hx j
theorem inC_symm {d : Int} {f x : Fm} (h0 : 0 < d) (h2 : d ≤ 2000) (h : Pd d f) (hp : Pd d x) (hx : inC f x = true) : inC x f = true := by
  obtain ⟨k, k1, k2, k3, k4, k5⟩ := cy_all h0 h2 h
  obtain ⟨j, e⟩ := (inC_iff h0 h2 h).1 hx
  obtain ⟨i, hi, e2⟩ := it_mod k1 k4 j
  refine (inC_iff h0 h2 hp).2 ⟨k - i, ?_⟩
  rw [e, e2, ← it_add, show i + (k - i) = k from by omega, k4]
/-- Where a later form of the way is on the way of another form, the first one is. -/
theorem inC_back {d : Int} {f x : Fm} (h0 : 0 < d) (h2 : d ≤ 2000) (h : Pd d f) (hp : Pd d x) {j : Nat} (hx : inC f (itF x j) = true) : inC f x = true :=
  inC_trans h0 h2 h (pd_it h0 h2 hp j) hx (inC_symm h0 h2 hp (pd_it h0 h2 hp j) ((inC_iff h0 h2 hp).2 ⟨j, rfl⟩))
end Go.Proofs.YtolbihoeheogkaaDoor
