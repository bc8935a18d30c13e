/- The surds of a root up to the first that comes again: the program's list and map. -/
import Derived.Test.YtdbbjmcfpfalhaaDoorSurdC
import Derived.Test.YtdbbjmcfpfalhaaDoorPell
import Derived.Test.YtdbbjmcfpfalhaaDoorKey3
import Derived.Test.YtdbbjmcfpfalhaaDoorOwnB
namespace Go.Proofs.YtdbbjmcfpfalhaaDoor
open Go.ChangeShapes Go.WideShapes Go.ChangeAt Go.RowKit
open Go.Maps
set_option linter.unusedVariables false
set_option maxHeartbeats 4000000
set_option maxRecDepth 20000
/-- d is no square, n the number of terms of its root's period; all as integers. -/
structure PerI (d : Int) (D r n : Nat) : Prop where
  eD : d = D
  d1 : 2 ≤ D
  d2 : D ≤ 10000
  er : rt d = r
  sq : sqB d = false
  per : Per D r n
theorem perI_of {d : Int} (h1 : 2 ≤ d) (h2 : d ≤ 10000) (hs : sqB d = false) : ∃ D r n, PerI d D r n := by
  obtain ⟨s0, s1, s2⟩ := rt_spec (n := d) (by omega) (by omega)
  have hne : rt d * rt d ≠ d := by
    intro e
    unfold sqB at hs
    simp only [Bool.and_eq_false_iff, decide_eq_false_iff_not, beq_eq_false_iff_ne, ne_eq] at hs
    rcases hs with h | h
    · omega
    · exact h e
  obtain ⟨D, hD⟩ := Int.eq_ofNat_of_zero_le (by omega : 0 ≤ d)
  obtain ⟨r, hr⟩ := Int.eq_ofNat_of_zero_le s0
  rw [hr] at s1 s2 hne
  rw [hD] at s1 s2 hne
  have h3 : r * r < D := by
    have a : ((r * r : Nat) : Int) ≤ D := by rw [Int.natCast_mul]; exact s1
    have b : ((r * r : Nat) : Int) ≠ D := by rw [Int.natCast_mul]; exact hne
    omega
  have h4 : D < (r + 1) * (r + 1) := by
    have : ((D : Nat) : Int) < ((r + 1) * (r + 1) : Nat) := by rw [Int.natCast_mul]; exact s2
    omega
  have h5 : 1 ≤ r := by
    rcases Nat.eq_zero_or_pos r with e | e
    · subst e; omega
    · exact e
  have h6 : r ≤ 99 := by
    rcases Nat.lt_or_ge 99 r with e | e
    · have := Nat.mul_le_mul (show 100 ≤ r by omega) (show 100 ≤ r by omega)
      omega
    · exact e
  obtain ⟨n, hn⟩ := per_of h3 h4 h5 h6
  exact ⟨D, r, n, hD, by omega, by omega, hr, hs, hn⟩
/-- A surd of the list and the next one. -/
theorem PerI.nx {d : Int} {D r n : Nat} (H : PerI d D r n) {k : Nat} (hk : k ≤ n) :
    Nx d (sS D r k).1 (sS D r k).2 (((sS D r k).1 + r) / (sS D r k).2 : Nat) (sS D r (k + 1)).1 (sS D r (k + 1)).2 := by
  obtain ⟨eD, d1, d2, er, sq, P⟩ := H
  have hok : okS D r (sS D r (k + 1)).1 (sS D r (k + 1)).2 = true := by
    rcases Nat.lt_or_ge k n with h | h
    · exact P.ok (k + 1) (by omega) (by omega)
    · have : k = n := by omega
      rw [this, P.back]
      exact P.ok 1 (by omega) P.n1
  obtain ⟨b0, b1, c0, md, -⟩ := okS_iff hok
  have hcur : (sS D r k).1 ≤ r ∧ 1 ≤ (sS D r k).2 ∧ (sS D r k).2 ≤ D ∧ (sS D r k).1 ≤ ((sS D r k).1 + r) / (sS D r k).2 * (sS D r k).2 ∧ 1 ≤ ((sS D r k).1 + r) / (sS D r k).2 := by
    cases k with
    | zero => exact ⟨by simp [sS, itS], by simp [sS, itS], by simp [sS, itS]; omega, by simp [sS, itS], by simp [sS, itS]; exact P.r1⟩
    | succ k =>
      obtain ⟨e0, e1, e2, e3, e4⟩ := okS_iff (P.ok (k + 1) (by omega) hk)
      have hlt : 0 < D - (sS D r (k + 1)).1 * (sS D r (k + 1)).1 := by
        have := Nat.mul_le_mul e1 e1
        have := P.lo
        omega
      have := Nat.le_of_dvd hlt (Nat.dvd_of_mod_eq_zero e3)
      refine ⟨e1, e2, by omega, e4, ?_⟩
      rcases Nat.eq_zero_or_pos (((sS D r (k + 1)).1 + r) / (sS D r (k + 1)).2) with h0 | h0
      · rw [h0] at e4; omega
      · exact h0
  obtain ⟨a0, a1, a2, a3, a4⟩ := hcur
  have hstep := sS_succ D r k
  have e1 : (sS D r (k + 1)).1 = ((sS D r k).1 + r) / (sS D r k).2 * (sS D r k).2 - (sS D r k).1 := by rw [hstep]; rfl
  have e2 : (sS D r (k + 1)).2 = (D - (sS D r (k + 1)).1 * (sS D r (k + 1)).1) / (sS D r k).2 := by rw [hstep]; rfl
  have hr := P.r2
  have hlo := P.lo
  have hA : ((sS D r k).1 + r) / (sS D r k).2 ≤ (sS D r k).1 + r := Nat.div_le_self _ _
  have hpp : (sS D r (k + 1)).1 * (sS D r (k + 1)).1 ≤ r * r := Nat.mul_le_mul b1 b1
  have hc1 : (sS D r (k + 1)).2 ≤ D := by rw [e2]; exact Nat.le_trans (Nat.div_le_self _ _) (by omega)
  generalize (sS D r k).1 = p at *
  generalize (sS D r k).2 = q at *
  generalize hA' : (p + r) / q = a at *
  generalize (sS D r (k + 1)).1 = p' at *
  generalize (sS D r (k + 1)).2 = q' at *
  have hsub : ((D : Int) - (p' : Int) * (p' : Int)) = ((D - p' * p' : Nat) : Int) := by
    rw [Int.ofNat_sub (by omega), Int.natCast_mul]
  refine ⟨by omega, by omega, sq, by omega, by omega, by omega, by omega, ?_, by omega, by omega, ?_, by omega, by omega, ?_, by omega, by omega, ?_⟩
  · unfold fl
    rw [if_pos (by omega), er, ← hA']
    simp
  · rw [e1, Int.ofNat_sub a3, Int.natCast_mul]
  · rw [eD, hsub, e2]; rfl
  · rw [eD, hsub]
    have : (((D - p' * p' : Nat) : Int).tmod (q' : Int)) = ((D - p' * p') % q' : Nat) := rfl
    rw [this, md]; rfl
/-- The cells of a surd. -/
def gS (d : Int) (s : Nat × Nat) : List Value := [.int .i64 s.1, .int .i64 d, .int .i64 s.2]
theorem gS_len (d : Int) (s : Nat × Nat) : (gS d s).length = 3 := rfl
/-- The first k surds. -/
def sL (D r k : Nat) : List (Nat × Nat) := (List.range k).map (sS D r)
theorem sL_succ (D r k : Nat) : sL D r (k + 1) = sL D r k ++ [sS D r k] := by simp [sL, List.range_succ]
theorem sL_len (D r k : Nat) : (sL D r k).length = k := by simp [sL]
theorem sL_at (D r k i : Nat) (h : i < (sL D r k).length) : (sL D r k)[i] = sS D r i := by simp [sL]
abbrev OwnS (d : Int) (w : World) (B : Nat) (v : Value) (L : List (Nat × Nat)) : Prop := Own w B 86 3 (gS d) v L
theorem infoS : (Tryd.prog.info? 86).map (fun i => (i.zero, i.size, i.bytes)) = some (some (.agg #[.int .i64 0, .int .i64 0, .int .i64 0]), 3, 24) := by kernel_rfl
theorem three_cellsS (x y z : Int) : ∀ u ∈ [Value.int .i64 x, Value.int .i64 y, Value.int .i64 z], u.oneCell' = true := by
  intro u hu
  simp at hu
  rcases hu with rfl | rfl | rfl <;> rfl
theorem appS {d : Int} {w' : World} {B : Nat} {v' : Value} {L : List (Nat × Nat)} {s : Nat × Nat} (h : w'.ownsRow B 86 3 v' (L.length + 1) (rowsOf (gS d) L ++ [.int .i64 s.1, .int .i64 d, .int .i64 s.2])) : OwnS d w' B v' (L ++ [s]) := Own.more (x := s) h
theorem OwnS.cells {d : Int} {w : World} {B b cap : Nat} {L : List (Nat × Nat)} (h : OwnS d w B (.slice (some ⟨b, 0, none⟩) L.length cap) L) (i : Nat) (hi : i < L.length) :
    w.cell? ⟨b, i * 3, none⟩ = some (.int .i64 (L[i]).1) ∧ w.cell? ⟨b, i * 3 + 1, none⟩ = some (.int .i64 d) ∧ w.cell? ⟨b, i * 3 + 2, none⟩ = some (.int .i64 (L[i]).2) :=
  ⟨Own.cell (gS_len d) h i 0 hi (by omega), Own.cell (gS_len d) h i 1 hi (by omega), Own.cell (gS_len d) h i 2 hi (by omega)⟩
theorem wf_small {n : Nat} (h : n ≤ 1000000) : (Lit.int .i64 (n : Int)).wf = true := WalkArith.wf_i64 (by omega)
/-- What a surd reads as, as a key. -/
noncomputable def kl (d : Int) (s : Nat × Nat) : Lit := (keyOf Tryd.prog 86 (.agg #[.int .i64 s.1, .int .i64 d, .int .i64 s.2])).getD (.bool false)
theorem kl_spec {d : Int} {s : Nat × Nat} (h1 : s.1 ≤ 1000000) (h2 : s.2 ≤ 1000000) (hd : 0 ≤ d ∧ d ≤ 1000000) : keyOf Tryd.prog 86 (.agg #[.int .i64 s.1, .int .i64 d, .int .i64 s.2]) = some (kl d s) := by
  obtain ⟨k, hk⟩ := keyS_some (a := s.1) (b := d) (c := s.2) (wf_small h1) (WalkArith.wf_i64 (by omega)) (wf_small h2)
  unfold kl
  rw [hk]
  rfl
theorem kl_inj {d : Int} {s t : Nat × Nat} (h1 : s.1 ≤ 1000000) (h2 : s.2 ≤ 1000000) (h3 : t.1 ≤ 1000000) (h4 : t.2 ≤ 1000000) (hd : 0 ≤ d ∧ d ≤ 1000000) (he : kl d s = kl d t) : s = t := by
  have a := kl_spec h1 h2 hd
  have b := kl_spec h3 h4 hd
  rw [he] at a
  have := lawS.inj a b
  simp at this
  exact Prod.ext (by omega) (by omega)
/-- The map of the first k surds: each to its place. -/
noncomputable def mD (d : Int) (D r : Nat) : Nat → DataW Unit
  | 0 => .map []
  | k + 1 => (mD d D r k).put (kl d (sS D r k)) (.lit (.int .i64 k))
theorem mD_isMap (d : Int) (D r : Nat) : ∀ k, IsMap (mD d D r k)
  | 0 => isMap_empty
  | k + 1 => (mD_isMap d D r k).put _ _
theorem PerI.small {d : Int} {D r n : Nat} (H : PerI d D r n) {k : Nat} (hk : k ≤ n + 1) : (sS D r k).1 ≤ 1000000 ∧ (sS D r k).2 ≤ 1000000 := by
  cases k with
  | zero => exact ⟨by simp [sS, itS], by simp [sS, itS]⟩
  | succ k =>
    have X := H.nx (k := k) (by omega)
    have := X.b1
    have := X.c1
    omega
theorem PerI.dsmall {d : Int} {D r n : Nat} (H : PerI d D r n) : 0 ≤ d ∧ d ≤ 1000000 := by
  have := H.eD
  have := H.d2
  omega
/-- A surd that is none of the first k is no key. -/
theorem mD_no {d : Int} {D r n : Nat} (H : PerI d D r n) {j : Nat} (hj : j ≤ n + 1) : ∀ k, k ≤ n + 1 → (∀ i, i < k → sS D r i ≠ sS D r j) → Maps.has (mD d D r k) (kl d (sS D r j)) = false
  | 0, _, _ => rfl
  | k + 1, hk, hne => by
    have h1 : kl d (sS D r j) ≠ kl d (sS D r k) := fun e => hne k (by omega) (kl_inj (H.small (by omega)).1 (H.small (by omega)).2 (H.small hj).1 (H.small hj).2 H.dsmall e.symm)
    show Maps.has ((mD d D r k).put _ _) _ = false
    rw [has_put_other h1]
    exact mD_no H hj k (by omega) (fun i hi => hne i (by omega))
/-- A surd of the first k is a key; it leads to its place, if it comes once. -/
theorem mD_yes {d : Int} {D r n : Nat} (H : PerI d D r n) {j : Nat} (hj : j ≤ n) : ∀ k, j < k → k ≤ n + 1 → Maps.has (mD d D r k) (kl d (sS D r j)) = true ∧ ∀ z, (mD d D r k).atKey (kl d (sS D r j)) z = .lit (.int .i64 j)
  | 0, h, _ => by omega
  | k + 1, h, hk => by
    by_cases e : j = k
    · subst e
      have hkey : WideAt.IsKeyLit (kl d (sS D r j)) := lawS.key (kl_spec (H.small (by omega)).1 (H.small (by omega)).2 H.dsmall)
      exact ⟨has_put_same (mD_isMap d D r j) hkey _, fun z => atKey_put_same (mD_isMap d D r j) hkey _ z⟩
    · have ih := mD_yes H hj k (by omega) (by omega)
      have h1 : kl d (sS D r j) ≠ kl d (sS D r k) := fun e2 => H.per.apart j k (by omega) (by omega) (kl_inj (H.small (by omega)).1 (H.small (by omega)).2 (H.small (by omega)).1 (H.small (by omega)).2 H.dsmall e2)
      refine ⟨?_, fun z => ?_⟩
      · show Maps.has ((mD d D r k).put _ _) _ = true
        rw [has_put_other h1]; exact ih.1
      · show ((mD d D r k).put _ _).atKey _ z = _
        rw [atKey_put_other h1]; exact ih.2 z
end Go.Proofs.YtdbbjmcfpfalhaaDoor
