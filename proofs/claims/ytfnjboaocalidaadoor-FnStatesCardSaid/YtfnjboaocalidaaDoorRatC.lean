/- Sums, differences, quotients and floors of plain fractions: the reference's walks. -/
import Derived.Test.YtfnjboaocalidaaDoorRat
import Derived.BigGuardPart
namespace Go.Proofs.YtfnjboaocalidaaDoor
open Go.ChangeShapes Go.WideShapes Go.ChangeAt Go.RowKit
set_option linter.unusedVariables false
set_option maxHeartbeats 8000000
set_option maxRecDepth 20000
theorem vQ_b {n d : Int} (h : vQ n d = true) : (-1000000000 ≤ n ∧ n ≤ 1000000000) ∧ (1 ≤ d ∧ d ≤ 1000000000) := ⟨(vQ_iff.1 h).1, (vQ_iff.1 h).2.1⟩
theorem mulQ {x y : Int} (hx : -1000000000 ≤ x ∧ x ≤ 1000000000) (hy : -1000000000 ≤ y ∧ y ≤ 1000000000) : -1000000000000000000 ≤ x * y ∧ x * y ≤ 1000000000000000000 := by
  have := mul_abs (A := 1000000000) (B := 1000000000) hx hy
  omega
theorem l02Two_ok (a b c d : Int) (w : World) (h1 : vQ a b = true) (h2 : vQ c d = true) :
    Calls Tryd.prog 30 #[.agg #[.int .i64 a, .int .i64 b], .agg #[.int .i64 c, .int .i64 d]] w fun e w' => e = .returned (.int .i64 0) ∧ Below w.heap.size w w' := by
  have b1 := vQ_b h1
  have b2 := vQ_b h2
  have O1 := Lib.hid (by have h := l02Ok_any a b · (by omega) (by omega); rw [h1] at h; exact h)
  have O2 := Lib.hid (by have h := l02Ok_any c d · (by omega) (by omega); rw [h2] at h; exact h)
  clear h1 h2
  go_enter Tryd.func30, Tryd.ntmps30
  go_wp2_with fail; refine (O1.out _).mono ?_; rintro e w1 ⟨rfl, hb1⟩; obtain ⟨hc1, hf1, -, hB1⟩ := bcell hb1; have hz1 := hb1.size; (try simp at hz1); (try have hk1_0 : w.heap.size < w1.heap.size := by omega); (try have hk1_1 : w.heap.size + 1 < w1.heap.size := by omega); (try have hk1_2 : w.heap.size + 1 + 1 < w1.heap.size := by omega); (try have hk1_3 : w.heap.size + 1 + 1 + 1 < w1.heap.size := by omega); (try have hk1_4 : wr.heap.size < w1.heap.size := by omega); (try have hk1_5 : wr.heap.size + 1 < w1.heap.size := by omega)
  go_wp2_with fail; refine (O2.out _).mono ?_; rintro e w2 ⟨rfl, hb2⟩; obtain ⟨hc2, hf2, -, hB2⟩ := bcell hb2; have hz2 := hb2.size; (try simp at hz2); (try have hk2_0 : w.heap.size < w2.heap.size := by omega); (try have hk2_1 : w.heap.size + 1 < w2.heap.size := by omega); (try have hk2_2 : w.heap.size + 1 + 1 < w2.heap.size := by omega); (try have hk2_3 : w.heap.size + 1 + 1 + 1 < w2.heap.size := by omega); (try have hk2_4 : wr.heap.size < w2.heap.size := by omega); (try have hk2_5 : wr.heap.size + 1 < w2.heap.size := by omega); (try have hk2_6 : w1.heap.size < w2.heap.size := by omega); (try have hk2_7 : w1.heap.size + 1 < w2.heap.size := by omega)
  go_wp2_with fail
  go_ret
  exact ⟨rfl, (by repeat' (first | (with_reducible exact Below.refl _ _) | (with_reducible assumption) | (with_reducible refine Below.setCell ?_ ?_ _) | (with_reducible refine Below.alloc ?_ ?_ _) | (with_reducible refine Below.drew ?_) | (with_reducible refine below_drewN ?_ _) | (with_reducible refine Below.trans ?_ (Below.mono (by with_reducible assumption) ?_)) | go_size | (simp at *; omega)))⟩
theorem sAdd_ok (a b c d : Int) (w : World) (h1 : vQ a b = true) (h2 : vQ c d = true) :
    Calls Tryd.prog 14 #[.agg #[.int .i64 a, .int .i64 b], .agg #[.int .i64 c, .int .i64 d]] w fun e w' => e = .returned (.tuple #[.agg #[.int .i64 (plainQ (a * d + c * b) (b * d)).1.n, .int .i64 (plainQ (a * d + c * b) (b * d)).1.d], .int .i64 (plainQ (a * d + c * b) (b * d)).2]) ∧ Below w.heap.size w w' := by
  have b1 := vQ_b h1
  have b2 := vQ_b h2
  have m1 := mulQ (x := a) (y := d) (by omega) (by omega)
  have m2 := mulQ (x := c) (y := b) (by omega) (by omega)
  have m3 := mulQ (x := b) (y := d) (by omega) (by omega)
  have m4 := mulQ (x := b) (y := c) (by omega) (by omega)
  have hne : b * d ≠ 0 := Int.mul_ne_zero (by omega) (by omega)
  have TW := Lib.hid (l02Two_ok a b c d · h1 h2)
  have FU := Lib.hid (l02Full_any (a * d + c * b) (b * d) · (by omega) (by omega) hne)
  generalize hP : plainQ (a * d + c * b) (b * d) = P at *
  obtain ⟨⟨p1, p2⟩, p3⟩ := P
  clear h1 h2 hP hne
  go_enter Tryd.func14, Tryd.ntmps14
  go_wp2_with fail; refine (TW.out _).mono ?_; rintro e w1 ⟨rfl, hb1⟩; obtain ⟨hc1, hf1, -, hB1⟩ := bcell hb1; have hz1 := hb1.size; (try simp at hz1); (try have hk1_0 : w.heap.size < w1.heap.size := by omega); (try have hk1_1 : w.heap.size + 1 < w1.heap.size := by omega); (try have hk1_2 : w.heap.size + 1 + 1 < w1.heap.size := by omega); (try have hk1_3 : w.heap.size + 1 + 1 + 1 < w1.heap.size := by omega); (try have hk1_4 : wr.heap.size < w1.heap.size := by omega); (try have hk1_5 : wr.heap.size + 1 < w1.heap.size := by omega)
  go_wp2_with fail; refine (FU.out _).mono ?_; rintro e w2 ⟨rfl, hb2⟩; obtain ⟨hc2, hf2, -, hB2⟩ := bcell hb2; have hz2 := hb2.size; (try simp at hz2); (try have hk2_0 : w.heap.size < w2.heap.size := by omega); (try have hk2_1 : w.heap.size + 1 < w2.heap.size := by omega); (try have hk2_2 : w.heap.size + 1 + 1 < w2.heap.size := by omega); (try have hk2_3 : w.heap.size + 1 + 1 + 1 < w2.heap.size := by omega); (try have hk2_4 : wr.heap.size < w2.heap.size := by omega); (try have hk2_5 : wr.heap.size + 1 < w2.heap.size := by omega); (try have hk2_6 : w1.heap.size < w2.heap.size := by omega); (try have hk2_7 : w1.heap.size + 1 < w2.heap.size := by omega)
  go_wp2_with fail
  apply body_row2 (w.heap.size + 1 + 1) 32 Tryd.results14 Tryd.underlying32 rfl rfl rfl; (case q => simp (disch := (first | omega | (simp; done) | (simp; omega))) [*]; try rfl); (case hi => kernel_rfl)
  exact ⟨rfl, (by repeat' (first | (with_reducible exact Below.refl _ _) | (with_reducible assumption) | (with_reducible refine Below.setCell ?_ ?_ _) | (with_reducible refine Below.alloc ?_ ?_ _) | (with_reducible refine Below.drew ?_) | (with_reducible refine below_drewN ?_ _) | (with_reducible refine Below.trans ?_ (Below.mono (by with_reducible assumption) ?_)) | go_size | (simp at *; omega)))⟩
theorem sDiv_ok (a b c d : Int) (w : World) (h1 : vQ a b = true) (h2 : vQ c d = true) (h0 : c ≠ 0) :
    Calls Tryd.prog 13 #[.agg #[.int .i64 a, .int .i64 b], .agg #[.int .i64 c, .int .i64 d]] w fun e w' => e = .returned (.tuple #[.agg #[.int .i64 (plainQ (a * d) (b * c)).1.n, .int .i64 (plainQ (a * d) (b * c)).1.d], .int .i64 (plainQ (a * d) (b * c)).2]) ∧ Below w.heap.size w w' := by
  have b1 := vQ_b h1
  have b2 := vQ_b h2
  have m1 := mulQ (x := a) (y := d) (by omega) (by omega)
  have m2 := mulQ (x := c) (y := b) (by omega) (by omega)
  have m3 := mulQ (x := b) (y := d) (by omega) (by omega)
  have m4 := mulQ (x := b) (y := c) (by omega) (by omega)
  have hne : b * c ≠ 0 := Int.mul_ne_zero (by omega) (by omega)
  have TW := Lib.hid (l02Two_ok a b c d · h1 h2)
  have FU := Lib.hid (l02Full_any (a * d) (b * c) · (by omega) (by omega) hne)
  generalize hP : plainQ (a * d) (b * c) = P at *
  obtain ⟨⟨p1, p2⟩, p3⟩ := P
  clear h1 h2 hP hne
  go_enter Tryd.func13, Tryd.ntmps13
  go_wp2_with fail; refine (TW.out _).mono ?_; rintro e w1 ⟨rfl, hb1⟩; obtain ⟨hc1, hf1, -, hB1⟩ := bcell hb1; have hz1 := hb1.size; (try simp at hz1); (try have hk1_0 : w.heap.size < w1.heap.size := by omega); (try have hk1_1 : w.heap.size + 1 < w1.heap.size := by omega); (try have hk1_2 : w.heap.size + 1 + 1 < w1.heap.size := by omega); (try have hk1_3 : w.heap.size + 1 + 1 + 1 < w1.heap.size := by omega); (try have hk1_4 : wr.heap.size < w1.heap.size := by omega); (try have hk1_5 : wr.heap.size + 1 < w1.heap.size := by omega)
  go_wp2_with fail; refine (FU.out _).mono ?_; rintro e w2 ⟨rfl, hb2⟩; obtain ⟨hc2, hf2, -, hB2⟩ := bcell hb2; have hz2 := hb2.size; (try simp at hz2); (try have hk2_0 : w.heap.size < w2.heap.size := by omega); (try have hk2_1 : w.heap.size + 1 < w2.heap.size := by omega); (try have hk2_2 : w.heap.size + 1 + 1 < w2.heap.size := by omega); (try have hk2_3 : w.heap.size + 1 + 1 + 1 < w2.heap.size := by omega); (try have hk2_4 : wr.heap.size < w2.heap.size := by omega); (try have hk2_5 : wr.heap.size + 1 < w2.heap.size := by omega); (try have hk2_6 : w1.heap.size < w2.heap.size := by omega); (try have hk2_7 : w1.heap.size + 1 < w2.heap.size := by omega)
  go_wp2_with fail
  apply body_row2 (w.heap.size + 1 + 1) 32 Tryd.results13 Tryd.underlying32 rfl rfl rfl; (case q => simp (disch := (first | omega | (simp; done) | (simp; omega))) [*]; try rfl); (case hi => kernel_rfl)
  exact ⟨rfl, (by repeat' (first | (with_reducible exact Below.refl _ _) | (with_reducible assumption) | (with_reducible refine Below.setCell ?_ ?_ _) | (with_reducible refine Below.alloc ?_ ?_ _) | (with_reducible refine Below.drew ?_) | (with_reducible refine below_drewN ?_ _) | (with_reducible refine Below.trans ?_ (Below.mono (by with_reducible assumption) ?_)) | go_size | (simp at *; omega)))⟩
end Go.Proofs.YtfnjboaocalidaaDoor
