/- Equations: solutions in one class. -/
import Derived.Test.YtdbbjmcfpfalhaaDoorEqA
import Derived.Test.YtdbbjmcfpfalhaaDoorMem
namespace Go.Proofs.YtdbbjmcfpfalhaaDoor
open Go.ChangeShapes Go.WideShapes Go.ChangeAt Go.RowKit
set_option linter.unusedVariables false
set_option maxHeartbeats 1000000
/-- Are two solutions in one class? -/
def smB (d n ax ay bx by' : Int) : Bool := ((ax * bx - d * ay * by').tmod n == 0) && ((ax * by' - ay * bx).tmod n == 0)
theorem sm_b {d ax ay bx b_ : Int} (hd : 2 ≤ d ∧ d ≤ 10000) (h1 : pOk d ax ay = true) (h2 : pOk d bx b_ = true) :
    (-1000000000000000000 ≤ ax * bx ∧ ax * bx ≤ 1000000000000000000) ∧ (-10000000000000 ≤ d * ay ∧ d * ay ≤ 10000000000000) ∧ (-1000000000000000000 ≤ d * ay * b_ ∧ d * ay * b_ ≤ 1000000000000000000) ∧
    (-1000000000000000000 ≤ ax * b_ ∧ ax * b_ ≤ 1000000000000000000) ∧ (-1000000000000000000 ≤ ay * bx ∧ ay * bx ≤ 1000000000000000000) := by
  obtain ⟨a1, a2, -⟩ := pOk_is h1
  obtain ⟨b1, b2, -⟩ := pOk_is h2
  have m1 := mul_b a1 b1
  have m2 := mul_b (a := d) (A := 10000) (by omega) a2
  have m3 := mul_b a1 b2
  have m4 := mul_b a2 b1
  have m5 := dyz (d := d) (by omega) (pOk_dyy (by omega) h1) (pOk_dyy (by omega) h2)
  exact ⟨by omega, by omega, m5, by omega, by omega⟩
theorem isS_ok {d n x y : Int} (h : isS d n x y = true) : pOk d x y = true := by
  simp only [isS, Bool.and_eq_true] at h
  exact h.1
theorem sameClass_any (d n ax ay bx b_ : Int) (w : World) (hd : 2 ≤ d ∧ d ≤ 10000) (hn : n ≠ 0) (h1 : pOk d ax ay = true) (h2 : pOk d bx b_ = true) :
    Calls Tryd.prog 40 #[.int .i64 d, .int .i64 n, .agg #[.int .i64 ax, .int .i64 ay], .agg #[.int .i64 bx, .int .i64 b_]] w fun e w' => e = .returned (.bool (smB d n ax ay bx b_)) ∧ Below w.heap.size w w' := by
  obtain ⟨m1, m2, m3, m4, m5⟩ := sm_b hd h1 h2
  clear h1 h2
  have HS : Hid (smB d n ax ay bx b_ = (((ax * bx - d * ay * b_).tmod n == 0) && ((ax * b_ - ay * bx).tmod n == 0))) := Lib.hid rfl
  generalize hp : ax * bx = p1 at *
  generalize hq : d * ay * b_ = p2 at *
  generalize hr : ax * b_ = p3 at *
  generalize hs : ay * bx = p4 at *
  go_enter Tryd.func40, Tryd.ntmps40
  go_wp2
  all_goals
    go_ret
    exact ⟨ret_bool (by rw [HS.out]; simp [*]), (by repeat' (first | (with_reducible exact Below.refl _ _) | (with_reducible assumption) | (with_reducible refine Below.setCell ?_ ?_ _) | (with_reducible refine Below.alloc ?_ ?_ _) | (with_reducible refine Below.drew ?_) | (with_reducible refine below_drewN ?_ _) | (with_reducible refine Below.trans ?_ (Below.mono (by with_reducible assumption) ?_)) | go_size | (simp at *; omega)))⟩
theorem l10Same_any (d n ax ay bx b_ : Int) (w : World) (hd : 2 ≤ d ∧ d ≤ 10000) (hn : n ≠ 0) (h1 : pOk d ax ay = true) (h2 : pOk d bx b_ = true) :
    Calls Tryd.prog 42 #[.int .i64 d, .int .i64 n, .agg #[.int .i64 ax, .int .i64 ay], .agg #[.int .i64 bx, .int .i64 b_]] w fun e w' => e = .returned (.bool (smB d n ax ay bx b_)) ∧ Below w.heap.size w w' := by
  obtain ⟨m1, m2, m3, m4, m5⟩ := sm_b hd h1 h2
  clear h1 h2
  have HS : Hid (smB d n ax ay bx b_ = (((ax * bx - d * ay * b_).tmod n == 0) && ((ax * b_ - ay * bx).tmod n == 0))) := Lib.hid rfl
  generalize hp : ax * bx = p1 at *
  generalize hq : d * ay * b_ = p2 at *
  generalize hr : ax * b_ = p3 at *
  generalize hs : ay * bx = p4 at *
  go_enter Tryd.func42, Tryd.ntmps42
  go_wp2
  all_goals
    go_ret
    exact ⟨ret_bool (by rw [HS.out]; simp [*]), (by repeat' (first | (with_reducible exact Below.refl _ _) | (with_reducible assumption) | (with_reducible refine Below.setCell ?_ ?_ _) | (with_reducible refine Below.alloc ?_ ?_ _) | (with_reducible refine Below.drew ?_) | (with_reducible refine below_drewN ?_ _) | (with_reducible refine Below.trans ?_ (Below.mono (by with_reducible assumption) ?_)) | go_size | (simp at *; omega)))⟩
/-- Are two pairs in one class, and the code. -/
def scR (d n ax ay bx b_ : Int) : Bool × Int :=
  if eqC d n = 0 then (if (isS d n ax ay && isS d n bx b_) = true then (smB d n ax ay bx b_, 0) else (false, 1)) else (false, eqC d n)
theorem iSameClass_any (d n ax ay bx b_ : Int) (w : World) :
    Calls Tryd.prog 16 #[.int .i64 d, .int .i64 n, .agg #[.int .i64 ax, .int .i64 ay], .agg #[.int .i64 bx, .int .i64 b_]] w fun e w' => e = .returned (.tuple #[.bool (scR d n ax ay bx b_).1, .int .i64 (scR d n ax ay bx b_).2]) ∧ Below w.heap.size w w' := by
  by_cases hc : eqC d n = 0
  · obtain ⟨⟨hd, hn, hn0⟩, -⟩ := eqC_zero hc
    have hd' : 2 ≤ d ∧ d ≤ 10000 := by omega
    cases h1 : isS d n ax ay
    · have HF : Hid (scR d n ax ay bx b_ = (false, 1)) := Lib.hid (by simp [scR, hc, h1])
      go_enter Tryd.func16, Tryd.ntmps16
      go_wp2_with (go_at_call 23; refine (checkEquation_any _ _ _).mono ?_; rintro e w1 ⟨rfl, rfl⟩)
      go_wp2_with fail; refine (isSolution_any _ _ _ _ _ hd').mono ?_; rintro e w1 ⟨rfl, hb1⟩; obtain ⟨hc1, hf1, -, hB1⟩ := bcell hb1; have hz1 := hb1.size; (try simp at hz1); (try have hk1_0 : w.heap.size < w1.heap.size := by omega); (try have hk1_1 : w.heap.size + 1 < w1.heap.size := by omega); (try have hk1_2 : w.heap.size + 1 + 1 < w1.heap.size := by omega); (try have hk1_3 : w.heap.size + 1 + 1 + 1 < w1.heap.size := by omega); (try have hk1_4 : wr.heap.size < w1.heap.size := by omega); (try have hk1_5 : wr.heap.size + 1 < w1.heap.size := by omega)
      go_wp2_with fail
      go_ret2
      exact ⟨by rw [HF.out]; rfl, (by repeat' (first | (with_reducible exact Below.refl _ _) | (with_reducible assumption) | (with_reducible refine Below.setCell ?_ ?_ _) | (with_reducible refine Below.alloc ?_ ?_ _) | (with_reducible refine Below.drew ?_) | (with_reducible refine below_drewN ?_ _) | (with_reducible refine Below.trans ?_ (Below.mono (by with_reducible assumption) ?_)) | go_size | (simp at *; omega)))⟩
    · cases h2 : isS d n bx b_
      · have HF : Hid (scR d n ax ay bx b_ = (false, 1)) := Lib.hid (by simp [scR, hc, h1, h2])
        go_enter Tryd.func16, Tryd.ntmps16
        go_wp2_with (go_at_call 23; refine (checkEquation_any _ _ _).mono ?_; rintro e w1 ⟨rfl, rfl⟩)
        go_wp2_with fail; refine (isSolution_any _ _ _ _ _ hd').mono ?_; rintro e w1 ⟨rfl, hb1⟩; obtain ⟨hc1, hf1, -, hB1⟩ := bcell hb1; have hz1 := hb1.size; (try simp at hz1); (try have hk1_0 : w.heap.size < w1.heap.size := by omega); (try have hk1_1 : w.heap.size + 1 < w1.heap.size := by omega); (try have hk1_2 : w.heap.size + 1 + 1 < w1.heap.size := by omega); (try have hk1_3 : w.heap.size + 1 + 1 + 1 < w1.heap.size := by omega); (try have hk1_4 : wr.heap.size < w1.heap.size := by omega); (try have hk1_5 : wr.heap.size + 1 < w1.heap.size := by omega)
        go_wp2_with fail; refine (isSolution_any _ _ _ _ _ hd').mono ?_; rintro e w2 ⟨rfl, hb2⟩; obtain ⟨hc2, hf2, -, hB2⟩ := bcell hb2; have hz2 := hb2.size; (try simp at hz2); (try have hk2_0 : w.heap.size < w2.heap.size := by omega); (try have hk2_1 : w.heap.size + 1 < w2.heap.size := by omega); (try have hk2_2 : w.heap.size + 1 + 1 < w2.heap.size := by omega); (try have hk2_3 : w.heap.size + 1 + 1 + 1 < w2.heap.size := by omega); (try have hk2_4 : wr.heap.size < w2.heap.size := by omega); (try have hk2_5 : wr.heap.size + 1 < w2.heap.size := by omega); (try have hk2_6 : w1.heap.size < w2.heap.size := by omega); (try have hk2_7 : w1.heap.size + 1 < w2.heap.size := by omega)
        go_wp2_with fail
        go_ret2
        exact ⟨by rw [HF.out]; rfl, (by repeat' (first | (with_reducible exact Below.refl _ _) | (with_reducible assumption) | (with_reducible refine Below.setCell ?_ ?_ _) | (with_reducible refine Below.alloc ?_ ?_ _) | (with_reducible refine Below.drew ?_) | (with_reducible refine below_drewN ?_ _) | (with_reducible refine Below.trans ?_ (Below.mono (by with_reducible assumption) ?_)) | go_size | (simp at *; omega)))⟩
      · have HF : Hid (scR d n ax ay bx b_ = (smB d n ax ay bx b_, 0)) := Lib.hid (by simp [scR, hc, h1, h2])
        have HA := Lib.hid (isS_ok h1)
        have HB := Lib.hid (isS_ok h2)
        go_enter Tryd.func16, Tryd.ntmps16
        go_wp2_with (go_at_call 23; refine (checkEquation_any _ _ _).mono ?_; rintro e w1 ⟨rfl, rfl⟩)
        go_wp2_with fail; refine (isSolution_any _ _ _ _ _ hd').mono ?_; rintro e w1 ⟨rfl, hb1⟩; obtain ⟨hc1, hf1, -, hB1⟩ := bcell hb1; have hz1 := hb1.size; (try simp at hz1); (try have hk1_0 : w.heap.size < w1.heap.size := by omega); (try have hk1_1 : w.heap.size + 1 < w1.heap.size := by omega); (try have hk1_2 : w.heap.size + 1 + 1 < w1.heap.size := by omega); (try have hk1_3 : w.heap.size + 1 + 1 + 1 < w1.heap.size := by omega); (try have hk1_4 : wr.heap.size < w1.heap.size := by omega); (try have hk1_5 : wr.heap.size + 1 < w1.heap.size := by omega)
        go_wp2_with fail; refine (isSolution_any _ _ _ _ _ hd').mono ?_; rintro e w2 ⟨rfl, hb2⟩; obtain ⟨hc2, hf2, -, hB2⟩ := bcell hb2; have hz2 := hb2.size; (try simp at hz2); (try have hk2_0 : w.heap.size < w2.heap.size := by omega); (try have hk2_1 : w.heap.size + 1 < w2.heap.size := by omega); (try have hk2_2 : w.heap.size + 1 + 1 < w2.heap.size := by omega); (try have hk2_3 : w.heap.size + 1 + 1 + 1 < w2.heap.size := by omega); (try have hk2_4 : wr.heap.size < w2.heap.size := by omega); (try have hk2_5 : wr.heap.size + 1 < w2.heap.size := by omega); (try have hk2_6 : w1.heap.size < w2.heap.size := by omega); (try have hk2_7 : w1.heap.size + 1 < w2.heap.size := by omega)
        go_wp2_with fail; refine (sameClass_any _ _ _ _ _ _ _ hd' hn0 HA.out HB.out).mono ?_; rintro e w3 ⟨rfl, hb3⟩; obtain ⟨hc3, hf3, -, hB3⟩ := bcell hb3; have hz3 := hb3.size; (try simp at hz3); (try have hk3_0 : w.heap.size < w3.heap.size := by omega); (try have hk3_1 : w.heap.size + 1 < w3.heap.size := by omega); (try have hk3_2 : w.heap.size + 1 + 1 < w3.heap.size := by omega); (try have hk3_3 : w.heap.size + 1 + 1 + 1 < w3.heap.size := by omega); (try have hk3_4 : wr.heap.size < w3.heap.size := by omega); (try have hk3_5 : wr.heap.size + 1 < w3.heap.size := by omega); (try have hk3_6 : w1.heap.size < w3.heap.size := by omega); (try have hk3_7 : w1.heap.size + 1 < w3.heap.size := by omega); (try have hk3_8 : w2.heap.size < w3.heap.size := by omega); (try have hk3_9 : w2.heap.size + 1 < w3.heap.size := by omega)
        go_wp2_with fail
        go_ret2
        exact ⟨by rw [HF.out]; rfl, (by repeat' (first | (with_reducible exact Below.refl _ _) | (with_reducible assumption) | (with_reducible refine Below.setCell ?_ ?_ _) | (with_reducible refine Below.alloc ?_ ?_ _) | (with_reducible refine Below.drew ?_) | (with_reducible refine below_drewN ?_ _) | (with_reducible refine Below.trans ?_ (Below.mono (by with_reducible assumption) ?_)) | go_size | (simp at *; omega)))⟩
  · have HF : Hid (scR d n ax ay bx b_ = (false, eqC d n)) := Lib.hid (by simp [scR, hc])
    have hcb : (eqC d n != 0) = true := by simp [hc]
    clear hc
    go_enter Tryd.func16, Tryd.ntmps16
    go_wp2_with (go_at_call 23; refine (checkEquation_any _ _ _).mono ?_; rintro e w1 ⟨rfl, rfl⟩)
    go_ret2
    exact ⟨by rw [HF.out]; rfl, (by repeat' (first | (with_reducible exact Below.refl _ _) | (with_reducible assumption) | (with_reducible refine Below.setCell ?_ ?_ _) | (with_reducible refine Below.alloc ?_ ?_ _) | (with_reducible refine Below.drew ?_) | (with_reducible refine below_drewN ?_ _) | (with_reducible refine Below.trans ?_ (Below.mono (by with_reducible assumption) ?_)) | go_size | (simp at *; omega)))⟩
theorem sSameClass_any (d n ax ay bx b_ : Int) (w : World) :
    Calls Tryd.prog 17 #[.int .i64 d, .int .i64 n, .agg #[.int .i64 ax, .int .i64 ay], .agg #[.int .i64 bx, .int .i64 b_]] w fun e w' => e = .returned (.tuple #[.bool (scR d n ax ay bx b_).1, .int .i64 (scR d n ax ay bx b_).2]) ∧ Below w.heap.size w w' := by
  by_cases hc : eqC d n = 0
  · obtain ⟨⟨hd, hn, hn0⟩, -⟩ := eqC_zero hc
    have hd' : 2 ≤ d ∧ d ≤ 10000 := by omega
    cases h1 : isS d n ax ay
    · have HF : Hid (scR d n ax ay bx b_ = (false, 1)) := Lib.hid (by simp [scR, hc, h1])
      go_enter Tryd.func17, Tryd.ntmps17
      go_wp2_with (go_at_call 21; refine (l10Code_any _ _ _).mono ?_; rintro e w1 ⟨rfl, rfl⟩)
      go_wp2_with fail; refine (l10Is_any _ _ _ _ _ hd').mono ?_; rintro e w1 ⟨rfl, hb1⟩; obtain ⟨hc1, hf1, -, hB1⟩ := bcell hb1; have hz1 := hb1.size; (try simp at hz1); (try have hk1_0 : w.heap.size < w1.heap.size := by omega); (try have hk1_1 : w.heap.size + 1 < w1.heap.size := by omega); (try have hk1_2 : w.heap.size + 1 + 1 < w1.heap.size := by omega); (try have hk1_3 : w.heap.size + 1 + 1 + 1 < w1.heap.size := by omega); (try have hk1_4 : wr.heap.size < w1.heap.size := by omega); (try have hk1_5 : wr.heap.size + 1 < w1.heap.size := by omega)
      go_wp2_with fail
      go_ret2
      exact ⟨by rw [HF.out]; rfl, (by repeat' (first | (with_reducible exact Below.refl _ _) | (with_reducible assumption) | (with_reducible refine Below.setCell ?_ ?_ _) | (with_reducible refine Below.alloc ?_ ?_ _) | (with_reducible refine Below.drew ?_) | (with_reducible refine below_drewN ?_ _) | (with_reducible refine Below.trans ?_ (Below.mono (by with_reducible assumption) ?_)) | go_size | (simp at *; omega)))⟩
    · cases h2 : isS d n bx b_
      · have HF : Hid (scR d n ax ay bx b_ = (false, 1)) := Lib.hid (by simp [scR, hc, h1, h2])
        go_enter Tryd.func17, Tryd.ntmps17
        go_wp2_with (go_at_call 21; refine (l10Code_any _ _ _).mono ?_; rintro e w1 ⟨rfl, rfl⟩)
        go_wp2_with fail; refine (l10Is_any _ _ _ _ _ hd').mono ?_; rintro e w1 ⟨rfl, hb1⟩; obtain ⟨hc1, hf1, -, hB1⟩ := bcell hb1; have hz1 := hb1.size; (try simp at hz1); (try have hk1_0 : w.heap.size < w1.heap.size := by omega); (try have hk1_1 : w.heap.size + 1 < w1.heap.size := by omega); (try have hk1_2 : w.heap.size + 1 + 1 < w1.heap.size := by omega); (try have hk1_3 : w.heap.size + 1 + 1 + 1 < w1.heap.size := by omega); (try have hk1_4 : wr.heap.size < w1.heap.size := by omega); (try have hk1_5 : wr.heap.size + 1 < w1.heap.size := by omega)
        go_wp2_with fail; refine (l10Is_any _ _ _ _ _ hd').mono ?_; rintro e w2 ⟨rfl, hb2⟩; obtain ⟨hc2, hf2, -, hB2⟩ := bcell hb2; have hz2 := hb2.size; (try simp at hz2); (try have hk2_0 : w.heap.size < w2.heap.size := by omega); (try have hk2_1 : w.heap.size + 1 < w2.heap.size := by omega); (try have hk2_2 : w.heap.size + 1 + 1 < w2.heap.size := by omega); (try have hk2_3 : w.heap.size + 1 + 1 + 1 < w2.heap.size := by omega); (try have hk2_4 : wr.heap.size < w2.heap.size := by omega); (try have hk2_5 : wr.heap.size + 1 < w2.heap.size := by omega); (try have hk2_6 : w1.heap.size < w2.heap.size := by omega); (try have hk2_7 : w1.heap.size + 1 < w2.heap.size := by omega)
        go_wp2_with fail
        go_ret2
        exact ⟨by rw [HF.out]; rfl, (by repeat' (first | (with_reducible exact Below.refl _ _) | (with_reducible assumption) | (with_reducible refine Below.setCell ?_ ?_ _) | (with_reducible refine Below.alloc ?_ ?_ _) | (with_reducible refine Below.drew ?_) | (with_reducible refine below_drewN ?_ _) | (with_reducible refine Below.trans ?_ (Below.mono (by with_reducible assumption) ?_)) | go_size | (simp at *; omega)))⟩
      · have HF : Hid (scR d n ax ay bx b_ = (smB d n ax ay bx b_, 0)) := Lib.hid (by simp [scR, hc, h1, h2])
        have HA := Lib.hid (isS_ok h1)
        have HB := Lib.hid (isS_ok h2)
        go_enter Tryd.func17, Tryd.ntmps17
        go_wp2_with (go_at_call 21; refine (l10Code_any _ _ _).mono ?_; rintro e w1 ⟨rfl, rfl⟩)
        go_wp2_with fail; refine (l10Is_any _ _ _ _ _ hd').mono ?_; rintro e w1 ⟨rfl, hb1⟩; obtain ⟨hc1, hf1, -, hB1⟩ := bcell hb1; have hz1 := hb1.size; (try simp at hz1); (try have hk1_0 : w.heap.size < w1.heap.size := by omega); (try have hk1_1 : w.heap.size + 1 < w1.heap.size := by omega); (try have hk1_2 : w.heap.size + 1 + 1 < w1.heap.size := by omega); (try have hk1_3 : w.heap.size + 1 + 1 + 1 < w1.heap.size := by omega); (try have hk1_4 : wr.heap.size < w1.heap.size := by omega); (try have hk1_5 : wr.heap.size + 1 < w1.heap.size := by omega)
        go_wp2_with fail; refine (l10Is_any _ _ _ _ _ hd').mono ?_; rintro e w2 ⟨rfl, hb2⟩; obtain ⟨hc2, hf2, -, hB2⟩ := bcell hb2; have hz2 := hb2.size; (try simp at hz2); (try have hk2_0 : w.heap.size < w2.heap.size := by omega); (try have hk2_1 : w.heap.size + 1 < w2.heap.size := by omega); (try have hk2_2 : w.heap.size + 1 + 1 < w2.heap.size := by omega); (try have hk2_3 : w.heap.size + 1 + 1 + 1 < w2.heap.size := by omega); (try have hk2_4 : wr.heap.size < w2.heap.size := by omega); (try have hk2_5 : wr.heap.size + 1 < w2.heap.size := by omega); (try have hk2_6 : w1.heap.size < w2.heap.size := by omega); (try have hk2_7 : w1.heap.size + 1 < w2.heap.size := by omega)
        go_wp2_with fail; refine (l10Same_any _ _ _ _ _ _ _ hd' hn0 HA.out HB.out).mono ?_; rintro e w3 ⟨rfl, hb3⟩; obtain ⟨hc3, hf3, -, hB3⟩ := bcell hb3; have hz3 := hb3.size; (try simp at hz3); (try have hk3_0 : w.heap.size < w3.heap.size := by omega); (try have hk3_1 : w.heap.size + 1 < w3.heap.size := by omega); (try have hk3_2 : w.heap.size + 1 + 1 < w3.heap.size := by omega); (try have hk3_3 : w.heap.size + 1 + 1 + 1 < w3.heap.size := by omega); (try have hk3_4 : wr.heap.size < w3.heap.size := by omega); (try have hk3_5 : wr.heap.size + 1 < w3.heap.size := by omega); (try have hk3_6 : w1.heap.size < w3.heap.size := by omega); (try have hk3_7 : w1.heap.size + 1 < w3.heap.size := by omega); (try have hk3_8 : w2.heap.size < w3.heap.size := by omega); (try have hk3_9 : w2.heap.size + 1 < w3.heap.size := by omega)
        go_wp2_with fail
        go_ret2
        exact ⟨by rw [HF.out]; rfl, (by repeat' (first | (with_reducible exact Below.refl _ _) | (with_reducible assumption) | (with_reducible refine Below.setCell ?_ ?_ _) | (with_reducible refine Below.alloc ?_ ?_ _) | (with_reducible refine Below.drew ?_) | (with_reducible refine below_drewN ?_ _) | (with_reducible refine Below.trans ?_ (Below.mono (by with_reducible assumption) ?_)) | go_size | (simp at *; omega)))⟩
  · have HF : Hid (scR d n ax ay bx b_ = (false, eqC d n)) := Lib.hid (by simp [scR, hc])
    have hcb : (eqC d n != 0) = true := by simp [hc]
    have hcc : (eqC d n == 0) = false := by simp [hc]
    clear hc
    go_enter Tryd.func17, Tryd.ntmps17
    go_wp2_with (go_at_call 21; refine (l10Code_any _ _ _).mono ?_; rintro e w1 ⟨rfl, rfl⟩)
    go_ret2
    exact ⟨by rw [HF.out]; rfl, (by repeat' (first | (with_reducible exact Below.refl _ _) | (with_reducible assumption) | (with_reducible refine Below.setCell ?_ ?_ _) | (with_reducible refine Below.alloc ?_ ?_ _) | (with_reducible refine Below.drew ?_) | (with_reducible refine below_drewN ?_ _) | (with_reducible refine Below.trans ?_ (Below.mono (by with_reducible assumption) ?_)) | go_size | (simp at *; omega)))⟩
end Go.Proofs.YtdbbjmcfpfalhaaDoor
