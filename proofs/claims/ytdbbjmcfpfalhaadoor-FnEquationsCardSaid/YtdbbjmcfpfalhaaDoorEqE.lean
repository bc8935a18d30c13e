/- Equations: the solutions up to a Y. -/
import Derived.Test.YtdbbjmcfpfalhaaDoorEqB
import Derived.Test.YtdbbjmcfpfalhaaDoorPps
namespace Go.Proofs.YtdbbjmcfpfalhaaDoor
open Go.ChangeShapes Go.WideShapes Go.ChangeAt Go.RowKit
set_option linter.unusedVariables false
set_option maxHeartbeats 1000000
def zX (d n y : Int) : Int := n + d * y * y
theorem zX_b {d n y : Int} (hd : 2 ≤ d ∧ d ≤ 1000) (hn : -1000 ≤ n ∧ n ≤ 1000) (hy : 0 ≤ y ∧ y ≤ 100000) : (0 ≤ d * y ∧ d * y ≤ 100000000) ∧ (0 ≤ d * y * y ∧ d * y * y ≤ 10000000000000) ∧ (-1000 ≤ zX d n y ∧ zX d n y ≤ 10000000001000) := by
  have h1 : 0 ≤ d * y := Int.mul_nonneg (by omega) hy.1
  have h2 := mul_b (a := d) (b := y) (A := 1000) (B := 100000) (by omega) (by omega)
  have h3 : 0 ≤ d * y * y := Int.mul_nonneg h1 hy.1
  have h4 := mul_b (a := d * y) (b := y) (A := 100000000) (B := 100000) (by omega) (by omega)
  unfold zX
  exact ⟨by omega, by omega, by omega, by omega⟩
/-- What a Y gives: the X, and whether there is one. -/
def solP (d n y : Int) : Pp := if sqB (zX d n y) = true then ⟨rt (zX d n y), y⟩ else ⟨0, 0⟩
theorem solutionAt_any (d n y : Int) (w : World) (hd : 2 ≤ d ∧ d ≤ 1000) (hn : -1000 ≤ n ∧ n ≤ 1000) (hy : 0 ≤ y ∧ y ≤ 100000) :
    Calls Tryd.prog 31 #[.int .i64 d, .int .i64 n, .int .i64 y] w fun e w' => e = .returned (.tuple #[.agg #[.int .i64 ((solP d n y).x), .int .i64 ((solP d n y).y)], .bool (sqB (zX d n y))]) ∧ Below w.heap.size w w' := by
  obtain ⟨m1, m2, m3⟩ := zX_b hd hn hy
  have e : n + d * y * y = zX d n y := rfl
  cases hs : sqB (zX d n y)
  · have HF : Hid (solP d n y = ⟨0, 0⟩) := Lib.hid (by simp [solP, hs])
    generalize zX d n y = z at *
    go_enter Tryd.func31, Tryd.ntmps31
    go_wp2_with (go_at_call 45; refine (isSquare_any _ _ (by omega)).mono ?_; rintro e w1 ⟨rfl, rfl⟩)
    apply body_row2 (w.heap.size) 32 Tryd.results31 Tryd.underlying32 rfl rfl rfl; (case q => simp (disch := (first | omega | (simp; done) | (simp; omega))) [*]; try rfl); (case hi => kernel_rfl)
    exact ⟨by rw [HF.out]; rfl, (by repeat' (first | (with_reducible exact Below.refl _ _) | (with_reducible assumption) | (with_reducible refine Below.setCell ?_ ?_ _) | (with_reducible refine Below.alloc ?_ ?_ _) | (with_reducible refine Below.drew ?_) | (with_reducible refine below_drewN ?_ _) | (with_reducible refine Below.trans ?_ (Below.mono (by with_reducible assumption) ?_)) | go_size | (simp at *; omega)))⟩
  · have HF : Hid (solP d n y = ⟨rt (zX d n y), y⟩) := Lib.hid (by simp [solP, hs])
    have h0 : 0 ≤ zX d n y := by
      simp only [sqB, Bool.and_eq_true, decide_eq_true_eq] at hs
      exact hs.1
    generalize zX d n y = z at *
    go_enter Tryd.func31, Tryd.ntmps31
    go_wp2_with (first | (go_at_call 45; refine (isSquare_any _ _ (by omega)).mono ?_; rintro e w1 ⟨rfl, rfl⟩) | (go_at_call 37; refine (root_any _ _ (by omega) (by omega)).mono ?_; rintro e w1 ⟨rfl, rfl⟩))
    apply body_row2 (w.heap.size) 32 Tryd.results31 Tryd.underlying32 rfl rfl rfl; (case q => simp (disch := (first | omega | (simp; done) | (simp; omega))) [*]; try rfl); (case hi => kernel_rfl)
    exact ⟨by rw [HF.out]; rfl, (by repeat' (first | (with_reducible exact Below.refl _ _) | (with_reducible assumption) | (with_reducible refine Below.setCell ?_ ?_ _) | (with_reducible refine Below.alloc ?_ ?_ _) | (with_reducible refine Below.drew ?_) | (with_reducible refine below_drewN ?_ _) | (with_reducible refine Below.trans ?_ (Below.mono (by with_reducible assumption) ?_)) | go_size | (simp at *; omega)))⟩
theorem l10X_any (d n y : Int) (w : World) (hd : 2 ≤ d ∧ d ≤ 1000) (hn : -1000 ≤ n ∧ n ≤ 1000) (hy : 0 ≤ y ∧ y ≤ 100000) :
    Calls Tryd.prog 34 #[.int .i64 d, .int .i64 n, .int .i64 y] w fun e w' => e = .returned (.tuple #[.int .i64 (rt (zX d n y)), .bool (sqB (zX d n y))]) ∧ w = w' := by
  obtain ⟨m1, m2, m3⟩ := zX_b hd hn hy
  have e : d * y * y + n = zX d n y := Int.add_comm ..
  generalize zX d n y = z at *
  rcases Int.lt_or_le z 0 with h | h
  · have h1 : rt z = 0 := rt_neg (by omega)
    have h2 : sqB z = false := by unfold sqB; rw [decide_eq_false (by omega)]; rfl
    have H1 := Lib.hid h1
    have H2 := Lib.hid h2
    clear h1 h2
    go_enter Tryd.func34, Tryd.ntmps34
    go_wp2_with fail
    go_ret2
    exact ⟨by rw [H1.out, H2.out]; rfl, rfl⟩
  · have s0 := (rt_spec h (by omega)).1
    have s1 : rt z ≤ 4000000 := rt_le h (by omega) (by omega) (by omega)
    have s2 := mul_b (a := rt z) (b := rt z) (A := 4000000) (B := 4000000) (by omega) (by omega)
    have HS : Hid (sqB z = (rt z * rt z == z)) := Lib.hid (by unfold sqB; rw [decide_eq_true h]; rfl)
    have hn0 : ¬ z < 0 := by omega
    go_enter Tryd.func34, Tryd.ntmps34
    go_wp2_with (go_at_call 48; refine (l07Root_any _ _ (by omega)).mono ?_; rintro e w1 ⟨rfl, rfl⟩)
    go_ret2
    exact ⟨by rw [HS.out]; rfl, rfl⟩
/-- The solutions with Y below k. -/
def suF (d n : Int) : Nat → List Pp
  | 0 => []
  | k + 1 => suF d n k ++ (if sqB (zX d n k) = true then [⟨rt (zX d n k), k⟩] else [])
theorem su_len (d n : Int) (k : Nat) : (suF d n k).length ≤ k := by
  induction k with
  | zero => simp [suF]
  | succ k ih =>
    unfold suF
    rw [List.length_append]
    split
    · simp; omega
    · simp; omega
theorem su_no {d n : Int} {k : Nat} (h : sqB (zX d n k) = false) : suF d n (k + 1) = suF d n k := by
  conv => lhs; unfold suF
  rw [h, if_neg (by simp), List.append_nil]
theorem su_yes {d n : Int} {k : Nat} (h : sqB (zX d n k) = true) : suF d n (k + 1) = suF d n k ++ [⟨rt (zX d n k), k⟩] := by
  conv => lhs; unfold suF
  rw [if_pos h]
theorem su_plain {d n y : Int} (hd : 2 ≤ d ∧ d ≤ 1000) (hn : -1000 ≤ n ∧ n ≤ 1000) (hy : 0 ≤ y ∧ y ≤ 100000) : pOk d (rt (zX d n y)) y = true := by
  obtain ⟨m1, m2, m3⟩ := zX_b hd hn hy
  have hr : 0 ≤ rt (zX d n y) ∧ rt (zX d n y) ≤ 4000000 := by
    rcases Int.lt_or_le (zX d n y) 0 with h | h
    · rw [rt_neg (by omega)]; omega
    · exact ⟨(rt_spec h (by omega)).1, rt_le h (by omega) (by omega) (by omega)⟩
  unfold pOk
  rw [inR_yes (by omega) (by omega), inR_yes (by omega) (by omega)]
  have hq : y * y ≤ 1000000000000000000 / d := by
    rw [Int.le_ediv_iff_mul_le (by omega)]
    have : y * y * d = d * y * y := by rw [Int.mul_comm, Int.mul_assoc]
    omega
  simp [hq]
def suC (d n most : Int) : Int := if eqC d n ≠ 2 ∧ inR most 0 10000 = true then eqC d n else 2
def suR (d n most : Int) : List Pp := if suC d n most = 0 then suF d n (most + 1).toNat else []
abbrev RetP (w : World) (L : List Pp) (c : Int) : Ending → World → Prop := RetL 32 2 gP w L c
end Go.Proofs.YtdbbjmcfpfalhaaDoor
