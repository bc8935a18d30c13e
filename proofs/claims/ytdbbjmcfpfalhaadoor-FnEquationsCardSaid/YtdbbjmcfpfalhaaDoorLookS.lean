/- How far to look: the reference's walk, and the law's. -/
import Derived.Test.YtdbbjmcfpfalhaaDoorAggs
import Derived.Test.YtdbbjmcfpfalhaaDoorLook
namespace Go.Proofs.YtdbbjmcfpfalhaaDoor
open Go.ChangeShapes Go.WideShapes Go.ChangeAt Go.RowKit
set_option linter.unusedVariables false
set_option maxHeartbeats 8000000
set_option maxRecDepth 20000
theorem l10Look_any (d n X Y : Int) (ok : Bool) (w : World) (hc : eqC d n = 0) (HL : LsOk d X Y ok) (LI : ∀ w : World, Calls Tryd.prog 49 #[.int .i64 d] w (RetLs X Y ok w)) :
    Calls Tryd.prog 35 #[.int .i64 d, .int .i64 n] w fun e w' => e = .returned (.tuple #[.int .i64 (lkR d n X ok).1, .int .i64 (lkR d n X ok).2]) ∧ Below w.heap.size w w' := by
  obtain ⟨⟨hd, hn, hn0⟩, -⟩ := eqC_zero hc
  have LI' := Lib.hid LI
  clear LI
  cases ok
  · have HF : Hid (lkR d n X false = (0, 5)) := Lib.hid (lkR_false d n X)
    clear HL
    go_enter Tryd.func35, Tryd.ntmps35
    go_wp2_with (go_at_call 21; refine (l10Code_any _ _ _).mono ?_; rintro e w1 ⟨rfl, rfl⟩)
    refine (LI'.out _).mono ?_
    rintro e w1 ⟨x, y, rfl, -, hb1⟩
    obtain ⟨hc1, hf1, -, hB1⟩ := bcell hb1; have hz1 := hb1.size; (try simp at hz1); (try have hk1_0 : w.heap.size < w1.heap.size := by omega); (try have hk1_1 : w.heap.size + 1 < w1.heap.size := by omega); (try have hk1_2 : w.heap.size + 1 + 1 < w1.heap.size := by omega); (try have hk1_3 : w.heap.size + 1 + 1 + 1 < w1.heap.size := by omega); (try have hk1_4 : wr.heap.size < w1.heap.size := by omega); (try have hk1_5 : wr.heap.size + 1 < w1.heap.size := by omega)
    go_wp2_with fail
    go_ret2
    exact ⟨by rw [HF.out]; rfl, (by repeat' (first | (with_reducible exact Below.refl _ _) | (with_reducible assumption) | (with_reducible refine Below.setCell ?_ ?_ _) | (with_reducible refine Below.alloc ?_ ?_ _) | (with_reducible refine Below.drew ?_) | (with_reducible refine below_drewN ?_ _) | (with_reducible refine Below.trans ?_ (Below.mono (by with_reducible assumption) ?_)) | go_size | (simp at *; omega)))⟩
  · have hp := pOk_iff.1 (HL.pl rfl)
    have hx1 := HL.x1 rfl
    obtain ⟨P1, P3, M, e1, e3, b1, b3, hM, hM0, hM1, hneg, hpos⟩ := lk_parts (by omega : 2 ≤ d ∧ d ≤ 10000) hn hn0 (X := X) (by omega)
    have HF0 : Hid (lkR d n X true = if rt M > 100000 then (0, 5) else (rt M, 0)) := Lib.hid (by rw [← hM]; exact lkR_true d n X)
    have hx2 : X ≤ 1000000000 := by omega
    have RT := Lib.hid (l07Root_any M · (by omega))
    have hr0 := (rt_spec (n := M) (by omega) (by omega)).1
    generalize rt M = R at *
    clear hM HL hp
    obtain ⟨A, hA⟩ : ∃ A, A = ab n := ⟨_, rfl⟩
    have SZ := Lib.hid (by have h := size_any n · (by omega); rw [← hA] at h; exact h)
    by_cases hr : R > 100000
    · have HF : Hid (lkR d n X true = (0, 5)) := Lib.hid (by rw [HF0.out, if_pos hr])
      clear HF0
      rcases Int.lt_or_gt_of_ne hn0 with hn1 | hn1
      · obtain ⟨c1, c2⟩ := hneg hn1
        have eA : A * (X + 1) = -P3 := by rw [hA, ab_neg hn1, Int.neg_mul, e3]
        clear hneg hpos hA
        go_enter Tryd.func35, Tryd.ntmps35
        go_wp2_with (go_at_call 21; refine (l10Code_any _ _ _).mono ?_; rintro e w1 ⟨rfl, rfl⟩)
        refine (LI'.out _).mono ?_
        rintro e w1 ⟨x, y, rfl, hxy, hb1⟩
        obtain ⟨rfl, rfl⟩ := hxy rfl
        obtain ⟨hc1, hf1, -, hB1⟩ := bcell hb1; have hz1 := hb1.size; (try simp at hz1); (try have hk1_0 : w.heap.size < w1.heap.size := by omega); (try have hk1_1 : w.heap.size + 1 < w1.heap.size := by omega); (try have hk1_2 : w.heap.size + 1 + 1 < w1.heap.size := by omega); (try have hk1_3 : w.heap.size + 1 + 1 + 1 < w1.heap.size := by omega); (try have hk1_4 : wr.heap.size < w1.heap.size := by omega); (try have hk1_5 : wr.heap.size + 1 < w1.heap.size := by omega)
        go_wp2_with (first | (go_at_call 48; refine (RT.out _).mono ?_; rintro e w1 ⟨rfl, rfl⟩) | (go_at_call 50; refine (SZ.out _).mono ?_; rintro e w1 ⟨rfl, rfl⟩))
        all_goals
          go_ret2
          exact ⟨by rw [HF.out]; rfl, (by repeat' (first | (with_reducible exact Below.refl _ _) | (with_reducible assumption) | (with_reducible refine Below.setCell ?_ ?_ _) | (with_reducible refine Below.alloc ?_ ?_ _) | (with_reducible refine Below.drew ?_) | (with_reducible refine below_drewN ?_ _) | (with_reducible refine Below.trans ?_ (Below.mono (by with_reducible assumption) ?_)) | go_size | (simp at *; omega)))⟩
      · obtain ⟨c1, c2⟩ := hpos hn1
        have eA : A * (X - 1) = P1 := by rw [hA, ab_pos (by omega), e1]
        have hn2 : ¬ n < 0 := by omega
        clear hneg hpos hA
        go_enter Tryd.func35, Tryd.ntmps35
        go_wp2_with (go_at_call 21; refine (l10Code_any _ _ _).mono ?_; rintro e w1 ⟨rfl, rfl⟩)
        refine (LI'.out _).mono ?_
        rintro e w1 ⟨x, y, rfl, hxy, hb1⟩
        obtain ⟨rfl, rfl⟩ := hxy rfl
        obtain ⟨hc1, hf1, -, hB1⟩ := bcell hb1; have hz1 := hb1.size; (try simp at hz1); (try have hk1_0 : w.heap.size < w1.heap.size := by omega); (try have hk1_1 : w.heap.size + 1 < w1.heap.size := by omega); (try have hk1_2 : w.heap.size + 1 + 1 < w1.heap.size := by omega); (try have hk1_3 : w.heap.size + 1 + 1 + 1 < w1.heap.size := by omega); (try have hk1_4 : wr.heap.size < w1.heap.size := by omega); (try have hk1_5 : wr.heap.size + 1 < w1.heap.size := by omega)
        go_wp2_with (first | (go_at_call 48; refine (RT.out _).mono ?_; rintro e w1 ⟨rfl, rfl⟩) | (go_at_call 50; refine (SZ.out _).mono ?_; rintro e w1 ⟨rfl, rfl⟩))
        all_goals
          go_ret2
          exact ⟨by rw [HF.out]; rfl, (by repeat' (first | (with_reducible exact Below.refl _ _) | (with_reducible assumption) | (with_reducible refine Below.setCell ?_ ?_ _) | (with_reducible refine Below.alloc ?_ ?_ _) | (with_reducible refine Below.drew ?_) | (with_reducible refine below_drewN ?_ _) | (with_reducible refine Below.trans ?_ (Below.mono (by with_reducible assumption) ?_)) | go_size | (simp at *; omega)))⟩
    · have HF : Hid (lkR d n X true = (R, 0)) := Lib.hid (by rw [HF0.out, if_neg hr])
      clear HF0
      rcases Int.lt_or_gt_of_ne hn0 with hn1 | hn1
      · obtain ⟨c1, c2⟩ := hneg hn1
        have eA : A * (X + 1) = -P3 := by rw [hA, ab_neg hn1, Int.neg_mul, e3]
        clear hneg hpos hA
        go_enter Tryd.func35, Tryd.ntmps35
        go_wp2_with (go_at_call 21; refine (l10Code_any _ _ _).mono ?_; rintro e w1 ⟨rfl, rfl⟩)
        refine (LI'.out _).mono ?_
        rintro e w1 ⟨x, y, rfl, hxy, hb1⟩
        obtain ⟨rfl, rfl⟩ := hxy rfl
        obtain ⟨hc1, hf1, -, hB1⟩ := bcell hb1; have hz1 := hb1.size; (try simp at hz1); (try have hk1_0 : w.heap.size < w1.heap.size := by omega); (try have hk1_1 : w.heap.size + 1 < w1.heap.size := by omega); (try have hk1_2 : w.heap.size + 1 + 1 < w1.heap.size := by omega); (try have hk1_3 : w.heap.size + 1 + 1 + 1 < w1.heap.size := by omega); (try have hk1_4 : wr.heap.size < w1.heap.size := by omega); (try have hk1_5 : wr.heap.size + 1 < w1.heap.size := by omega)
        go_wp2_with (first | (go_at_call 48; refine (RT.out _).mono ?_; rintro e w1 ⟨rfl, rfl⟩) | (go_at_call 50; refine (SZ.out _).mono ?_; rintro e w1 ⟨rfl, rfl⟩))
        all_goals
          go_ret2
          exact ⟨by rw [HF.out]; rfl, (by repeat' (first | (with_reducible exact Below.refl _ _) | (with_reducible assumption) | (with_reducible refine Below.setCell ?_ ?_ _) | (with_reducible refine Below.alloc ?_ ?_ _) | (with_reducible refine Below.drew ?_) | (with_reducible refine below_drewN ?_ _) | (with_reducible refine Below.trans ?_ (Below.mono (by with_reducible assumption) ?_)) | go_size | (simp at *; omega)))⟩
      · obtain ⟨c1, c2⟩ := hpos hn1
        have eA : A * (X - 1) = P1 := by rw [hA, ab_pos (by omega), e1]
        have hn2 : ¬ n < 0 := by omega
        clear hneg hpos hA
        go_enter Tryd.func35, Tryd.ntmps35
        go_wp2_with (go_at_call 21; refine (l10Code_any _ _ _).mono ?_; rintro e w1 ⟨rfl, rfl⟩)
        refine (LI'.out _).mono ?_
        rintro e w1 ⟨x, y, rfl, hxy, hb1⟩
        obtain ⟨rfl, rfl⟩ := hxy rfl
        obtain ⟨hc1, hf1, -, hB1⟩ := bcell hb1; have hz1 := hb1.size; (try simp at hz1); (try have hk1_0 : w.heap.size < w1.heap.size := by omega); (try have hk1_1 : w.heap.size + 1 < w1.heap.size := by omega); (try have hk1_2 : w.heap.size + 1 + 1 < w1.heap.size := by omega); (try have hk1_3 : w.heap.size + 1 + 1 + 1 < w1.heap.size := by omega); (try have hk1_4 : wr.heap.size < w1.heap.size := by omega); (try have hk1_5 : wr.heap.size + 1 < w1.heap.size := by omega)
        go_wp2_with (first | (go_at_call 48; refine (RT.out _).mono ?_; rintro e w1 ⟨rfl, rfl⟩) | (go_at_call 50; refine (SZ.out _).mono ?_; rintro e w1 ⟨rfl, rfl⟩))
        all_goals
          go_ret2
          exact ⟨by rw [HF.out]; rfl, (by repeat' (first | (with_reducible exact Below.refl _ _) | (with_reducible assumption) | (with_reducible refine Below.setCell ?_ ?_ _) | (with_reducible refine Below.alloc ?_ ?_ _) | (with_reducible refine Below.drew ?_) | (with_reducible refine below_drewN ?_ _) | (with_reducible refine Below.trans ?_ (Below.mono (by with_reducible assumption) ?_)) | go_size | (simp at *; omega)))⟩
theorem look_bad (d n : Int) (w : World) (hc : eqC d n ≠ 0) :
    Calls Tryd.prog 13 #[.int .i64 d, .int .i64 n] w fun e w' => e = .returned (.tuple #[.int .i64 0, .int .i64 (eqC d n)]) ∧ Below w.heap.size w w' := by
  have hcb : (eqC d n != 0) = true := by simp [hc]
  go_enter Tryd.func13, Tryd.ntmps13
  go_wp2_with (go_at_call 23; refine (checkEquation_any _ _ _).mono ?_; rintro e w1 ⟨rfl, rfl⟩)
  go_ret2
  exact ⟨rfl, (by repeat' (first | (with_reducible exact Below.refl _ _) | (with_reducible assumption) | (with_reducible refine Below.setCell ?_ ?_ _) | (with_reducible refine Below.alloc ?_ ?_ _) | (with_reducible refine Below.drew ?_) | (with_reducible refine below_drewN ?_ _) | (with_reducible refine Below.trans ?_ (Below.mono (by with_reducible assumption) ?_)) | go_size | (simp at *; omega)))⟩
theorem lookS_bad (d n : Int) (w : World) (hc : eqC d n ≠ 0) :
    Calls Tryd.prog 35 #[.int .i64 d, .int .i64 n] w fun e w' => e = .returned (.tuple #[.int .i64 0, .int .i64 (eqC d n)]) ∧ Below w.heap.size w w' := by
  have hcb : (eqC d n != 0) = true := by simp [hc]
  go_enter Tryd.func35, Tryd.ntmps35
  go_wp2_with (go_at_call 21; refine (l10Code_any _ _ _).mono ?_; rintro e w1 ⟨rfl, rfl⟩)
  go_ret2
  exact ⟨rfl, (by repeat' (first | (with_reducible exact Below.refl _ _) | (with_reducible assumption) | (with_reducible refine Below.setCell ?_ ?_ _) | (with_reducible refine Below.alloc ?_ ?_ _) | (with_reducible refine Below.drew ?_) | (with_reducible refine below_drewN ?_ _) | (with_reducible refine Below.trans ?_ (Below.mono (by with_reducible assumption) ?_)) | go_size | (simp at *; omega)))⟩
theorem look_both (d n : Int) : ∃ M k : Int, (∀ w : World, Calls Tryd.prog 13 #[.int .i64 d, .int .i64 n] w fun e w' => e = .returned (.tuple #[.int .i64 M, .int .i64 k]) ∧ Below w.heap.size w w') ∧
    (∀ w : World, Calls Tryd.prog 35 #[.int .i64 d, .int .i64 n] w fun e w' => e = .returned (.tuple #[.int .i64 M, .int .i64 k]) ∧ Below w.heap.size w w') := by
  by_cases hc : eqC d n = 0
  · obtain ⟨⟨hd, hn, hn0⟩, hs⟩ := eqC_zero hc
    obtain ⟨X, Y, ok, HL, LI, LS⟩ := least_both d hd.1 (by omega) hs
    exact ⟨_, _, fun w => iLook_any d n X Y ok w hc HL LI, fun w => l10Look_any d n X Y ok w hc HL LS⟩
  · exact ⟨_, _, fun w => look_bad d n w hc, fun w => lookS_bad d n w hc⟩
end Go.Proofs.YtdbbjmcfpfalhaaDoor
