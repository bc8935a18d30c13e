/- Numbers that a definite form shows: codes, how far Y goes, the places at one Y: plain. -/
import Derived.Test.YtodbmnbahldabaaDoorFmsE
import Derived.Test.YtodbmnbahldabaaDoorI64s
namespace Go.Proofs.YtodbmnbahldabaaDoor
open Go.ChangeShapes Go.WideShapes Go.ChangeAt Go.RowKit
set_option linter.unusedVariables false
set_option maxHeartbeats 1000000
/-- The code of a form whose discriminant must be negative. -/
def chS (a b c : Int) (fits : Bool) : Int := if vF a b c = true then (if fits = true then (if 0 < dF a b c then 6 else 0) else 2) else 1
theorem chS_zero {a b c : Int} {fits : Bool} (h : chS a b c fits = 0) : vF a b c = true ∧ fits = true ∧ dF a b c < 0 := by
  unfold chS at h
  split at h
  · rename_i hv
    split at h
    · rename_i hf
      split at h
      · cases h
      · exact ⟨hv, hf, by have := (vF_d hv).1; omega⟩
    · cases h
  · cases h
def hiY (a b c n : Int) : Int := rt (4 * a * n / -(dF a b c))
theorem hi_facts {a b c n : Int} (hv : vF a b c = true) (hd : dF a b c < 0) (hn : 1 ≤ n ∧ n ≤ 10000) :
    (1 ≤ a ∧ a ≤ 10000) ∧ (0 ≤ 4 * a * n ∧ 4 * a * n ≤ 400000000) ∧ (0 ≤ 4 * a * n / -(dF a b c) ∧ 4 * a * n / -(dF a b c) ≤ 400000000) ∧ (0 ≤ hiY a b c n ∧ hiY a b c n ≤ 20000) := by
  obtain ⟨a1, b1, c1⟩ := vF_in hv
  have ha := (vF_cpos hv hd).2
  have m1 := mul_f (a := 4 * a) (b := n) (A := 40000) (B := 10000) (by omega) (by omega)
  have m0 : 0 ≤ 4 * a * n := Int.mul_nonneg (by omega) (by omega)
  have q0 := Int.ediv_nonneg m0 (by omega : 0 ≤ -(dF a b c))
  have q1 := Int.ediv_le_self (a := 4 * a * n) (-(dF a b c)) m0
  have r0 := rt_spec (n := 4 * a * n / -(dF a b c)) q0 (by omega)
  have r1 : rt (4 * a * n / -(dF a b c)) ≤ 20000 := rt_le q0 (by omega) (by omega) (by omega)
  exact ⟨by omega, ⟨m0, by omega⟩, ⟨q0, by omega⟩, ⟨r0.1, r1⟩⟩
def zS' (a b c n y : Int) : Int := dF a b c * y * y + 4 * a * n
theorem zS_facts {a b c n y : Int} (hv : vF a b c = true) (hd : dF a b c < 0) (hn : 1 ≤ n ∧ n ≤ 10000) (hy : -20000 ≤ y ∧ y ≤ 20000) :
    (-10000000000000 ≤ dF a b c * y ∧ dF a b c * y ≤ 10000000000000) ∧ (-200000000000000000 ≤ dF a b c * y * y ∧ dF a b c * y * y ≤ 0) ∧ (-200000000000000000 ≤ zS' a b c n y ∧ zS' a b c n y ≤ 400000000) ∧ (-200000000 ≤ -b * y ∧ -b * y ≤ 200000000) := by
  obtain ⟨a1, b1, c1⟩ := vF_in hv
  have d1 := dF_range a1 b1 c1
  obtain ⟨-, h2, -⟩ := hi_facts hv hd hn
  have m1 := mul_f (a := dF a b c) (b := y) (A := 500000000) (B := 20000) (by omega) hy
  have m2 := mul_f (a := dF a b c * y) (b := y) (A := 10000000000000) (B := 20000) (by omega) hy
  have e : dF a b c * y * y = dF a b c * (y * y) := Int.mul_assoc ..
  have m3 : dF a b c * (y * y) ≤ 0 := Int.mul_nonpos_of_nonpos_of_nonneg (by omega) (sq_nonneg y)
  have m4 := mul_f (a := -b) (b := y) (A := 10000) (B := 20000) (by omega) hy
  unfold zS'
  exact ⟨by omega, by omega, by omega, by omega⟩
/-- One place. -/
def plT (a t : Int) : List Int := if (t.tmod (2 * a) == 0) = true then [t.tdiv (2 * a)] else []
/-- The places at one Y, in descending order. -/
def plF (a b c n y : Int) : List Int :=
  if sqB (zS' a b c n y) = true then plT a (-b * y + rt (zS' a b c n y)) ++ (if 0 < rt (zS' a b c n y) then plT a (-b * y - rt (zS' a b c n y)) else []) else []
theorem plT_len (a t : Int) : (plT a t).length ≤ 1 := by unfold plT; split <;> simp
theorem plF_len (a b c n y : Int) : (plF a b c n y).length ≤ 2 := by
  unfold plF
  split
  · rw [List.length_append]
    have h1 := plT_len a (-b * y + rt (zS' a b c n y))
    split
    · have h2 := plT_len a (-b * y - rt (zS' a b c n y)); omega
    · simp; omega
  · simp
theorem plT_neg (a t : Int) : (plT a (-t)).length = (plT a t).length := by
  unfold plT
  rw [Int.neg_tmod]
  have e : (-(t.tmod (2 * a)) == 0) = (t.tmod (2 * a) == 0) := by
    rw [Bool.eq_iff_iff]; simp
  rw [e]
  split <;> rfl
theorem plF_neg (a b c n y : Int) : (plF a b c n (-y)).length = (plF a b c n y).length := by
  have ez : zS' a b c n (-y) = zS' a b c n y := by unfold zS'; simp only [Int.mul_neg, Int.neg_mul, Int.neg_neg]
  unfold plF
  rw [ez]
  split
  · rw [List.length_append, List.length_append]
    have e1 : -b * -y + rt (zS' a b c n y) = -(-b * y - rt (zS' a b c n y)) := by rw [Int.mul_neg]; omega
    have e2 : -b * -y - rt (zS' a b c n y) = -(-b * y + rt (zS' a b c n y)) := by rw [Int.mul_neg]; omega
    rw [e1, e2, plT_neg]
    split
    · rw [plT_neg]; omega
    · rename_i h
      have h0 : rt (zS' a b c n y) ≤ 0 := by omega
      rcases Int.lt_or_le (zS' a b c n y) 0 with hz | hz
      · have e : rt (zS' a b c n y) = 0 := rt_neg (by omega)
        rw [e]; simp
      · have e : rt (zS' a b c n y) = 0 := by
          have : 0 ≤ rt (zS' a b c n y) := by unfold rt; omega
          omega
        rw [e]; simp
  · rfl
theorem checkShown_any (a b c : Int) (fits : Bool) (w : World) :
    Calls Tryd.prog 28 #[.agg #[.int .i64 a, .int .i64 b, .int .i64 c], .bool fits] w fun e w' => e = .returned (.int .i64 (chS a b c fits)) ∧ Below w.heap.size w w' := by
  cases hv : vF a b c
  · have HF : Hid (chS a b c fits = 1) := Lib.hid (by simp [chS, hv])
    go_enter Tryd.func28, Tryd.ntmps28
    go_wp2_with fail; refine (validForm_any _ _ _ _).mono ?_; rintro e w1 ⟨rfl, hb1⟩; obtain ⟨hc1, hf1, -, hB1⟩ := bcell hb1; have hz1 := hb1.size; (try simp at hz1); (try have hk1_0 : w.heap.size < w1.heap.size := by omega); (try have hk1_1 : w.heap.size + 1 < w1.heap.size := by omega); (try have hk1_2 : w.heap.size + 1 + 1 < w1.heap.size := by omega); (try have hk1_3 : w.heap.size + 1 + 1 + 1 < w1.heap.size := by omega); (try have hk1_4 : wr.heap.size < w1.heap.size := by omega); (try have hk1_5 : wr.heap.size + 1 < w1.heap.size := by omega)
    go_wp2_with fail
    go_ret
    exact ⟨ret_int HF.out.symm, (by repeat' (first | (with_reducible exact Below.refl _ _) | (with_reducible assumption) | (with_reducible refine Below.setCell ?_ ?_ _) | (with_reducible refine Below.alloc ?_ ?_ _) | (with_reducible refine Below.drew ?_) | (with_reducible refine below_drewN ?_ _) | (with_reducible refine Below.trans ?_ (Below.mono (by with_reducible assumption) ?_)) | go_size | (simp at *; omega)))⟩
  · obtain ⟨a1, b1, c1⟩ := vF_in hv
    cases fits
    · have HF : Hid (chS a b c false = 2) := Lib.hid (by simp [chS, hv])
      go_enter Tryd.func28, Tryd.ntmps28
      go_wp2_with fail; refine (validForm_any _ _ _ _).mono ?_; rintro e w1 ⟨rfl, hb1⟩; obtain ⟨hc1, hf1, -, hB1⟩ := bcell hb1; have hz1 := hb1.size; (try simp at hz1); (try have hk1_0 : w.heap.size < w1.heap.size := by omega); (try have hk1_1 : w.heap.size + 1 < w1.heap.size := by omega); (try have hk1_2 : w.heap.size + 1 + 1 < w1.heap.size := by omega); (try have hk1_3 : w.heap.size + 1 + 1 + 1 < w1.heap.size := by omega); (try have hk1_4 : wr.heap.size < w1.heap.size := by omega); (try have hk1_5 : wr.heap.size + 1 < w1.heap.size := by omega)
      go_wp2_with fail
      go_ret
      exact ⟨ret_int HF.out.symm, (by repeat' (first | (with_reducible exact Below.refl _ _) | (with_reducible assumption) | (with_reducible refine Below.setCell ?_ ?_ _) | (with_reducible refine Below.alloc ?_ ?_ _) | (with_reducible refine Below.drew ?_) | (with_reducible refine below_drewN ?_ _) | (with_reducible refine Below.trans ?_ (Below.mono (by with_reducible assumption) ?_)) | go_size | (simp at *; omega)))⟩
    · by_cases hd : 0 < dF a b c
      · have HF : Hid (chS a b c true = 6) := Lib.hid (by simp [chS, hv, hd])
        go_enter Tryd.func28, Tryd.ntmps28
        go_wp2_with fail; refine (validForm_any _ _ _ _).mono ?_; rintro e w1 ⟨rfl, hb1⟩; obtain ⟨hc1, hf1, -, hB1⟩ := bcell hb1; have hz1 := hb1.size; (try simp at hz1); (try have hk1_0 : w.heap.size < w1.heap.size := by omega); (try have hk1_1 : w.heap.size + 1 < w1.heap.size := by omega); (try have hk1_2 : w.heap.size + 1 + 1 < w1.heap.size := by omega); (try have hk1_3 : w.heap.size + 1 + 1 + 1 < w1.heap.size := by omega); (try have hk1_4 : wr.heap.size < w1.heap.size := by omega); (try have hk1_5 : wr.heap.size + 1 < w1.heap.size := by omega)
        go_wp2_with fail; refine (disc_any _ _ _ _ a1 b1 c1).mono ?_; rintro e w2 ⟨rfl, hb2⟩; obtain ⟨hc2, hf2, -, hB2⟩ := bcell hb2; have hz2 := hb2.size; (try simp at hz2); (try have hk2_0 : w.heap.size < w2.heap.size := by omega); (try have hk2_1 : w.heap.size + 1 < w2.heap.size := by omega); (try have hk2_2 : w.heap.size + 1 + 1 < w2.heap.size := by omega); (try have hk2_3 : w.heap.size + 1 + 1 + 1 < w2.heap.size := by omega); (try have hk2_4 : wr.heap.size < w2.heap.size := by omega); (try have hk2_5 : wr.heap.size + 1 < w2.heap.size := by omega); (try have hk2_6 : w1.heap.size < w2.heap.size := by omega); (try have hk2_7 : w1.heap.size + 1 < w2.heap.size := by omega)
        go_wp2_with fail
        go_ret
        exact ⟨ret_int HF.out.symm, (by repeat' (first | (with_reducible exact Below.refl _ _) | (with_reducible assumption) | (with_reducible refine Below.setCell ?_ ?_ _) | (with_reducible refine Below.alloc ?_ ?_ _) | (with_reducible refine Below.drew ?_) | (with_reducible refine below_drewN ?_ _) | (with_reducible refine Below.trans ?_ (Below.mono (by with_reducible assumption) ?_)) | go_size | (simp at *; omega)))⟩
      · have HF : Hid (chS a b c true = 0) := Lib.hid (by simp [chS, hv, hd])
        have hd' : (0 < dF a b c) = False := eq_false hd
        go_enter Tryd.func28, Tryd.ntmps28
        go_wp2_with fail; refine (validForm_any _ _ _ _).mono ?_; rintro e w1 ⟨rfl, hb1⟩; obtain ⟨hc1, hf1, -, hB1⟩ := bcell hb1; have hz1 := hb1.size; (try simp at hz1); (try have hk1_0 : w.heap.size < w1.heap.size := by omega); (try have hk1_1 : w.heap.size + 1 < w1.heap.size := by omega); (try have hk1_2 : w.heap.size + 1 + 1 < w1.heap.size := by omega); (try have hk1_3 : w.heap.size + 1 + 1 + 1 < w1.heap.size := by omega); (try have hk1_4 : wr.heap.size < w1.heap.size := by omega); (try have hk1_5 : wr.heap.size + 1 < w1.heap.size := by omega)
        go_wp2_with fail; refine (disc_any _ _ _ _ a1 b1 c1).mono ?_; rintro e w2 ⟨rfl, hb2⟩; obtain ⟨hc2, hf2, -, hB2⟩ := bcell hb2; have hz2 := hb2.size; (try simp at hz2); (try have hk2_0 : w.heap.size < w2.heap.size := by omega); (try have hk2_1 : w.heap.size + 1 < w2.heap.size := by omega); (try have hk2_2 : w.heap.size + 1 + 1 < w2.heap.size := by omega); (try have hk2_3 : w.heap.size + 1 + 1 + 1 < w2.heap.size := by omega); (try have hk2_4 : wr.heap.size < w2.heap.size := by omega); (try have hk2_5 : wr.heap.size + 1 < w2.heap.size := by omega); (try have hk2_6 : w1.heap.size < w2.heap.size := by omega); (try have hk2_7 : w1.heap.size + 1 < w2.heap.size := by omega)
        go_wp2_with fail
        go_ret
        exact ⟨ret_int HF.out.symm, (by repeat' (first | (with_reducible exact Below.refl _ _) | (with_reducible assumption) | (with_reducible refine Below.setCell ?_ ?_ _) | (with_reducible refine Below.alloc ?_ ?_ _) | (with_reducible refine Below.drew ?_) | (with_reducible refine below_drewN ?_ _) | (with_reducible refine Below.trans ?_ (Below.mono (by with_reducible assumption) ?_)) | go_size | (simp at *; omega)))⟩
theorem l12Code_any (a b c n : Int) (w : World) :
    Calls Tryd.prog 31 #[.agg #[.int .i64 a, .int .i64 b, .int .i64 c], .int .i64 n] w fun e w' => e = .returned (.int .i64 (chS a b c (inR n 1 10000))) ∧ Below w.heap.size w w' := by
  cases hv : vF a b c
  · have HF : Hid (chS a b c (inR n 1 10000) = 1) := Lib.hid (by simp [chS, hv])
    go_enter Tryd.func31, Tryd.ntmps31
    go_wp2_with fail; refine (l11Ok_any _ _ _ _).mono ?_; rintro e w1 ⟨rfl, hb1⟩; obtain ⟨hc1, hf1, -, hB1⟩ := bcell hb1; have hz1 := hb1.size; (try simp at hz1); (try have hk1_0 : w.heap.size < w1.heap.size := by omega); (try have hk1_1 : w.heap.size + 1 < w1.heap.size := by omega); (try have hk1_2 : w.heap.size + 1 + 1 < w1.heap.size := by omega); (try have hk1_3 : w.heap.size + 1 + 1 + 1 < w1.heap.size := by omega); (try have hk1_4 : wr.heap.size < w1.heap.size := by omega); (try have hk1_5 : wr.heap.size + 1 < w1.heap.size := by omega)
    go_wp2_with fail
    go_ret
    exact ⟨ret_int HF.out.symm, (by repeat' (first | (with_reducible exact Below.refl _ _) | (with_reducible assumption) | (with_reducible refine Below.setCell ?_ ?_ _) | (with_reducible refine Below.alloc ?_ ?_ _) | (with_reducible refine Below.drew ?_) | (with_reducible refine below_drewN ?_ _) | (with_reducible refine Below.trans ?_ (Below.mono (by with_reducible assumption) ?_)) | go_size | (simp at *; omega)))⟩
  · obtain ⟨a1, b1, c1⟩ := vF_in hv
    cases hn : inR n 1 10000
    · have HF : Hid (chS a b c false = 2) := Lib.hid (by simp [chS, hv])
      go_enter Tryd.func31, Tryd.ntmps31
      go_wp2_with fail; refine (l11Ok_any _ _ _ _).mono ?_; rintro e w1 ⟨rfl, hb1⟩; obtain ⟨hc1, hf1, -, hB1⟩ := bcell hb1; have hz1 := hb1.size; (try simp at hz1); (try have hk1_0 : w.heap.size < w1.heap.size := by omega); (try have hk1_1 : w.heap.size + 1 < w1.heap.size := by omega); (try have hk1_2 : w.heap.size + 1 + 1 < w1.heap.size := by omega); (try have hk1_3 : w.heap.size + 1 + 1 + 1 < w1.heap.size := by omega); (try have hk1_4 : wr.heap.size < w1.heap.size := by omega); (try have hk1_5 : wr.heap.size + 1 < w1.heap.size := by omega)
      go_wp2_with (go_at_call 42; refine (in_any _ _ _ _).mono ?_; rintro e w1 ⟨rfl, rfl⟩)
      go_ret
      exact ⟨ret_int HF.out.symm, (by repeat' (first | (with_reducible exact Below.refl _ _) | (with_reducible assumption) | (with_reducible refine Below.setCell ?_ ?_ _) | (with_reducible refine Below.alloc ?_ ?_ _) | (with_reducible refine Below.drew ?_) | (with_reducible refine below_drewN ?_ _) | (with_reducible refine Below.trans ?_ (Below.mono (by with_reducible assumption) ?_)) | go_size | (simp at *; omega)))⟩
    · by_cases hd : 0 < dF a b c
      · have HF : Hid (chS a b c true = 6) := Lib.hid (by simp [chS, hv, hd])
        go_enter Tryd.func31, Tryd.ntmps31
        go_wp2_with fail; refine (l11Ok_any _ _ _ _).mono ?_; rintro e w1 ⟨rfl, hb1⟩; obtain ⟨hc1, hf1, -, hB1⟩ := bcell hb1; have hz1 := hb1.size; (try simp at hz1); (try have hk1_0 : w.heap.size < w1.heap.size := by omega); (try have hk1_1 : w.heap.size + 1 < w1.heap.size := by omega); (try have hk1_2 : w.heap.size + 1 + 1 < w1.heap.size := by omega); (try have hk1_3 : w.heap.size + 1 + 1 + 1 < w1.heap.size := by omega); (try have hk1_4 : wr.heap.size < w1.heap.size := by omega); (try have hk1_5 : wr.heap.size + 1 < w1.heap.size := by omega)
        go_wp2_with (go_at_call 42; refine (in_any _ _ _ _).mono ?_; rintro e w1 ⟨rfl, rfl⟩)
        go_wp2_with fail; refine (l11Disc_any _ _ _ _ a1 b1 c1).mono ?_; rintro e w2 ⟨rfl, hb2⟩; obtain ⟨hc2, hf2, -, hB2⟩ := bcell hb2; have hz2 := hb2.size; (try simp at hz2); (try have hk2_0 : w.heap.size < w2.heap.size := by omega); (try have hk2_1 : w.heap.size + 1 < w2.heap.size := by omega); (try have hk2_2 : w.heap.size + 1 + 1 < w2.heap.size := by omega); (try have hk2_3 : w.heap.size + 1 + 1 + 1 < w2.heap.size := by omega); (try have hk2_4 : wr.heap.size < w2.heap.size := by omega); (try have hk2_5 : wr.heap.size + 1 < w2.heap.size := by omega); (try have hk2_6 : w1.heap.size < w2.heap.size := by omega); (try have hk2_7 : w1.heap.size + 1 < w2.heap.size := by omega)
        go_wp2_with fail
        go_ret
        exact ⟨ret_int HF.out.symm, (by repeat' (first | (with_reducible exact Below.refl _ _) | (with_reducible assumption) | (with_reducible refine Below.setCell ?_ ?_ _) | (with_reducible refine Below.alloc ?_ ?_ _) | (with_reducible refine Below.drew ?_) | (with_reducible refine below_drewN ?_ _) | (with_reducible refine Below.trans ?_ (Below.mono (by with_reducible assumption) ?_)) | go_size | (simp at *; omega)))⟩
      · have HF : Hid (chS a b c true = 0) := Lib.hid (by simp [chS, hv, hd])
        have hd' : (0 < dF a b c) = False := eq_false hd
        go_enter Tryd.func31, Tryd.ntmps31
        go_wp2_with fail; refine (l11Ok_any _ _ _ _).mono ?_; rintro e w1 ⟨rfl, hb1⟩; obtain ⟨hc1, hf1, -, hB1⟩ := bcell hb1; have hz1 := hb1.size; (try simp at hz1); (try have hk1_0 : w.heap.size < w1.heap.size := by omega); (try have hk1_1 : w.heap.size + 1 < w1.heap.size := by omega); (try have hk1_2 : w.heap.size + 1 + 1 < w1.heap.size := by omega); (try have hk1_3 : w.heap.size + 1 + 1 + 1 < w1.heap.size := by omega); (try have hk1_4 : wr.heap.size < w1.heap.size := by omega); (try have hk1_5 : wr.heap.size + 1 < w1.heap.size := by omega)
        go_wp2_with (go_at_call 42; refine (in_any _ _ _ _).mono ?_; rintro e w1 ⟨rfl, rfl⟩)
        go_wp2_with fail; refine (l11Disc_any _ _ _ _ a1 b1 c1).mono ?_; rintro e w2 ⟨rfl, hb2⟩; obtain ⟨hc2, hf2, -, hB2⟩ := bcell hb2; have hz2 := hb2.size; (try simp at hz2); (try have hk2_0 : w.heap.size < w2.heap.size := by omega); (try have hk2_1 : w.heap.size + 1 < w2.heap.size := by omega); (try have hk2_2 : w.heap.size + 1 + 1 < w2.heap.size := by omega); (try have hk2_3 : w.heap.size + 1 + 1 + 1 < w2.heap.size := by omega); (try have hk2_4 : wr.heap.size < w2.heap.size := by omega); (try have hk2_5 : wr.heap.size + 1 < w2.heap.size := by omega); (try have hk2_6 : w1.heap.size < w2.heap.size := by omega); (try have hk2_7 : w1.heap.size + 1 < w2.heap.size := by omega)
        go_wp2_with fail
        go_ret
        exact ⟨ret_int HF.out.symm, (by repeat' (first | (with_reducible exact Below.refl _ _) | (with_reducible assumption) | (with_reducible refine Below.setCell ?_ ?_ _) | (with_reducible refine Below.alloc ?_ ?_ _) | (with_reducible refine Below.drew ?_) | (with_reducible refine below_drewN ?_ _) | (with_reducible refine Below.trans ?_ (Below.mono (by with_reducible assumption) ?_)) | go_size | (simp at *; omega)))⟩
theorem highestY_any (a b c n : Int) (w : World) (hv : vF a b c = true) (hd : dF a b c < 0) (hn : 1 ≤ n ∧ n ≤ 10000) :
    Calls Tryd.prog 34 #[.agg #[.int .i64 a, .int .i64 b, .int .i64 c], .int .i64 n] w fun e w' => e = .returned (.int .i64 (hiY a b c n)) ∧ Below w.heap.size w w' := by
  obtain ⟨a1, b1, c1⟩ := vF_in hv
  obtain ⟨h1, h2, h3, h4⟩ := hi_facts hv hd hn
  have d1 := dF_range a1 b1 c1
  have HS : Hid (hiY a b c n = rt (4 * a * n / -(dF a b c))) := Lib.hid rfl
  have e1 : (4 * a * n).tdiv (-(dF a b c)) = 4 * a * n / -(dF a b c) := Int.tdiv_eq_ediv_of_nonneg h2.1
  have e2 : -((4 * a * n).tdiv (dF a b c)) = 4 * a * n / -(dF a b c) := by rw [← e1, Int.tdiv_neg]
  have e3 : -(4 * a * n / dF a b c) = 4 * a * n / -(dF a b c) := (Int.ediv_neg ..).symm
  generalize 4 * a * n / -(dF a b c) = Q at *
  have hn0 : ¬ -(dF a b c) = 0 := by omega
  have hn1 : ¬ dF a b c = 0 := by omega
  clear hv
  go_enter Tryd.func34, Tryd.ntmps34
  go_wp2_with fail
  have hx0 : heapAt (w.alloc (.cells #[.int .i64 a, .int .i64 b, .int .i64 c] 25)) w.heap.size = some (.cells #[.int .i64 a, .int .i64 b, .int .i64 c] 25 (0, 0)) := (by simp (disch := (first | omega | (simp; done) | (simp; omega))) [*])
  obtain ⟨p0, p1, p2, p3, p4, p5, p6⟩ := blk3 hx0
  have v1 : IntKind.i64.wrap (4 * a) = 4 * a := IntWalk.i64_in _ (by omega)
  have v2 : IntKind.i64.wrap (4 * a * n) = 4 * a * n := IntWalk.i64_in _ (by omega)
  have v3 : IntKind.i64.wrap (-(dF a b c)) = -(dF a b c) := IntWalk.i64_in _ (by omega)
  have v4 : IntKind.i64.wrap Q = Q := IntWalk.i64_in _ (by omega)
  go_region_held3 (fun w' => w'.cell? ⟨w.heap.size, 0, none⟩ = some (.int .i64 a) ∧ w'.cell? ⟨w.heap.size, 1, none⟩ = some (.int .i64 b) ∧ w'.cell? ⟨w.heap.size, 2, none⟩ = some (.int .i64 c)) (first | assumption | exact ⟨p1, p2, p3⟩ | (refine ⟨?_, ?_, ?_⟩ <;> ((rw [hc1 _ _ (by first | omega | (simp; done) | (simp; omega))]) <;> first | assumption | exact p1 | exact p2 | exact p3 | (obtain ⟨_, _, _⟩ := ‹World.cell? _ _ = _ ∧ _ ∧ _›; assumption) | (simp [*]; done)))) (first | (go_at_call 52; refine (disc_any _ _ _ _ (by assumption) (by assumption) (by assumption)).mono ?_; rintro e w1 ⟨rfl, hb1⟩; obtain ⟨hc1, hf1, hl1, hB1⟩ := bcell hb1; have hz1 := hb1.size; (try simp at hz1); (try have hk0 : w.heap.size < w1.heap.size := by omega); (try have hk1 : w.heap.size + 1 < w1.heap.size := by omega); (try have hk2 : w.heap.size + 1 + 1 < w1.heap.size := by omega)) | (go_at_call 57; refine (root_any _ _ (by omega) (by omega)).mono ?_; rintro e w1 ⟨rfl, rfl⟩))
  all_goals
    go_wp2_with fail
    go_ret
    exact ⟨ret_int HS.out.symm, (by repeat' (first | (with_reducible exact Below.refl _ _) | (with_reducible assumption) | (with_reducible refine Below.setCell ?_ ?_ _) | (with_reducible refine Below.alloc ?_ ?_ _) | (with_reducible refine Below.drew ?_) | (with_reducible refine below_drewN ?_ _) | (with_reducible refine Below.trans ?_ (Below.mono (by with_reducible assumption) ?_)) | go_size | (simp at *; omega)))⟩
theorem l12Most_any (a b c n : Int) (w : World) (hv : vF a b c = true) (hd : dF a b c < 0) (hn : 1 ≤ n ∧ n ≤ 10000) :
    Calls Tryd.prog 32 #[.agg #[.int .i64 a, .int .i64 b, .int .i64 c], .int .i64 n] w fun e w' => e = .returned (.int .i64 (hiY a b c n)) ∧ Below w.heap.size w w' := by
  obtain ⟨a1, b1, c1⟩ := vF_in hv
  obtain ⟨h1, h2, h3, h4⟩ := hi_facts hv hd hn
  have d1 := dF_range a1 b1 c1
  have HS : Hid (hiY a b c n = rt (4 * a * n / -(dF a b c))) := Lib.hid rfl
  have e1 : (4 * a * n).tdiv (-(dF a b c)) = 4 * a * n / -(dF a b c) := Int.tdiv_eq_ediv_of_nonneg h2.1
  have e2 : -((4 * a * n).tdiv (dF a b c)) = 4 * a * n / -(dF a b c) := by rw [← e1, Int.tdiv_neg]
  have e3 : -(4 * a * n / dF a b c) = 4 * a * n / -(dF a b c) := (Int.ediv_neg ..).symm
  generalize 4 * a * n / -(dF a b c) = Q at *
  have hn0 : ¬ -(dF a b c) = 0 := by omega
  have hn1 : ¬ dF a b c = 0 := by omega
  clear hv
  go_enter Tryd.func32, Tryd.ntmps32
  go_wp2_with fail
  have hx0 : heapAt (w.alloc (.cells #[.int .i64 a, .int .i64 b, .int .i64 c] 25)) w.heap.size = some (.cells #[.int .i64 a, .int .i64 b, .int .i64 c] 25 (0, 0)) := (by simp (disch := (first | omega | (simp; done) | (simp; omega))) [*])
  obtain ⟨p0, p1, p2, p3, p4, p5, p6⟩ := blk3 hx0
  have v1 : IntKind.i64.wrap (4 * a) = 4 * a := IntWalk.i64_in _ (by omega)
  have v2 : IntKind.i64.wrap (4 * a * n) = 4 * a * n := IntWalk.i64_in _ (by omega)
  have v3 : IntKind.i64.wrap (-(dF a b c)) = -(dF a b c) := IntWalk.i64_in _ (by omega)
  have v4 : IntKind.i64.wrap Q = Q := IntWalk.i64_in _ (by omega)
  go_region_held3 (fun w' => w'.cell? ⟨w.heap.size, 0, none⟩ = some (.int .i64 a) ∧ w'.cell? ⟨w.heap.size, 1, none⟩ = some (.int .i64 b) ∧ w'.cell? ⟨w.heap.size, 2, none⟩ = some (.int .i64 c)) (first | assumption | exact ⟨p1, p2, p3⟩ | (refine ⟨?_, ?_, ?_⟩ <;> ((rw [hc1 _ _ (by first | omega | (simp; done) | (simp; omega))]) <;> first | assumption | exact p1 | exact p2 | exact p3 | (obtain ⟨_, _, _⟩ := ‹World.cell? _ _ = _ ∧ _ ∧ _›; assumption) | (simp [*]; done)))) (first | (go_at_call 54; refine (l11Disc_any _ _ _ _ (by assumption) (by assumption) (by assumption)).mono ?_; rintro e w1 ⟨rfl, hb1⟩; obtain ⟨hc1, hf1, hl1, hB1⟩ := bcell hb1; have hz1 := hb1.size; (try simp at hz1); (try have hk0 : w.heap.size < w1.heap.size := by omega); (try have hk1 : w.heap.size + 1 < w1.heap.size := by omega); (try have hk2 : w.heap.size + 1 + 1 < w1.heap.size := by omega)) | (go_at_call 55; refine (l07Root_any _ _ (by omega)).mono ?_; rintro e w1 ⟨rfl, rfl⟩))
  all_goals
    go_wp2_with fail
    go_ret
    exact ⟨ret_int HS.out.symm, (by repeat' (first | (with_reducible exact Below.refl _ _) | (with_reducible assumption) | (with_reducible refine Below.setCell ?_ ?_ _) | (with_reducible refine Below.alloc ?_ ?_ _) | (with_reducible refine Below.drew ?_) | (with_reducible refine below_drewN ?_ _) | (with_reducible refine Below.trans ?_ (Below.mono (by with_reducible assumption) ?_)) | go_size | (simp at *; omega)))⟩
end Go.Proofs.YtodbmnbahldabaaDoor
