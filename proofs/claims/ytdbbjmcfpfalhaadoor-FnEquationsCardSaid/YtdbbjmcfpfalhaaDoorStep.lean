/- One step of the convergents, and products that are not too great: the reference's. -/
import Derived.Test.YtdbbjmcfpfalhaaDoorWalk
namespace Go.Proofs.YtdbbjmcfpfalhaaDoor
open Go.ChangeShapes Go.WideShapes Go.ChangeAt Go.RowKit
set_option linter.unusedVariables false
set_option maxHeartbeats 8000000
set_option maxRecDepth 20000
theorem l03New_any (w : World) : Calls Tryd.prog 68 #[] w fun e w' => e = .returned (.agg #[.int .i64 1, .int .i64 0, .int .i64 0, .int .i64 1]) ∧ Below w.heap.size w w' := by
  go_enter Tryd.func68, Tryd.ntmps68
  go_wp2
  go_returns
  exact ⟨rfl, (by repeat' (first | (with_reducible exact Below.refl _ _) | (with_reducible assumption) | (with_reducible refine Below.setCell ?_ ?_ _) | (with_reducible refine Below.alloc ?_ ?_ _) | (with_reducible refine Below.drew ?_) | (with_reducible refine below_drewN ?_ _) | (with_reducible refine Below.trans ?_ (Below.mono (by with_reducible assumption) ?_)) | go_size | (simp at *; omega)))⟩
theorem cvNext_any (x y u v t X Y : Int) (w : World) (hX : t * x + u = X) (hY : t * y + v = Y) (b1 : -1000000000000 ≤ t * x ∧ t * x ≤ 1000000000000) (b2 : -1000000000000 ≤ t * y ∧ t * y ≤ 1000000000000) (b3 : -1000000000000 ≤ u ∧ u ≤ 1000000000000) (b4 : -1000000000000 ≤ v ∧ v ≤ 1000000000000) :
    Calls Tryd.prog 80 #[.agg #[.int .i64 x, .int .i64 y, .int .i64 u, .int .i64 v], .int .i64 t] w fun e w' => e = .returned (.agg #[.int .i64 X, .int .i64 Y, .int .i64 x, .int .i64 y]) ∧ Below w.heap.size w w' := by
  go_enter Tryd.func80, Tryd.ntmps80
  go_wp2
  go_returns
  exact ⟨rfl, (by repeat' (first | (with_reducible exact Below.refl _ _) | (with_reducible assumption) | (with_reducible refine Below.setCell ?_ ?_ _) | (with_reducible refine Below.alloc ?_ ?_ _) | (with_reducible refine Below.drew ?_) | (with_reducible refine below_drewN ?_ _) | (with_reducible refine Below.trans ?_ (Below.mono (by with_reducible assumption) ?_)) | go_size | (simp at *; omega)))⟩
/-- Both numbers are at most 10^9. -/
def stB (X Y : Int) : Bool := decide (X ≤ 1000000000) && decide (Y ≤ 1000000000)
theorem l08Step_any (x y u v t X Y : Int) (b : Bool) (w : World) (hb : stB X Y = b) (hX : t * x + u = X) (hY : t * y + v = Y) (p1 : 0 ≤ X) (p2 : 0 ≤ Y) (b1 : -1000000000000 ≤ t * x ∧ t * x ≤ 1000000000000) (b2 : -1000000000000 ≤ t * y ∧ t * y ≤ 1000000000000) (b3 : -1000000000000 ≤ u ∧ u ≤ 1000000000000) (b4 : -1000000000000 ≤ v ∧ v ≤ 1000000000000) :
    Calls Tryd.prog 69 #[.agg #[.int .i64 x, .int .i64 y, .int .i64 u, .int .i64 v], .int .i64 t] w fun e w' => e = .returned (.tuple #[.agg #[.int .i64 X, .int .i64 Y, .int .i64 x, .int .i64 y], .bool b]) ∧ Below w.heap.size w w' := by
  have NX := Lib.hid (cvNext_any x y u v t X Y · hX hY b1 b2 b3 b4)
  have SX := Lib.hid (by have h := size_any X · (by omega); rw [ab_pos p1] at h; exact h)
  have SY := Lib.hid (by have h := size_any Y · (by omega); rw [ab_pos p2] at h; exact h)
  have HB := Lib.hid hb
  clear hX hY hb
  by_cases c1 : X ≤ 1000000000
  · by_cases c2 : Y ≤ 1000000000
    all_goals
      go_enter Tryd.func69, Tryd.ntmps69
      go_wp2_with fail; refine (NX.out _).mono ?_; rintro e w1 ⟨rfl, hb1⟩; obtain ⟨hc1, hf1, -, hB1⟩ := bcell hb1; have hz1 := hb1.size; (try simp at hz1); (try have hk1_0 : w.heap.size < w1.heap.size := by omega); (try have hk1_1 : w.heap.size + 1 < w1.heap.size := by omega); (try have hk1_2 : w.heap.size + 1 + 1 < w1.heap.size := by omega); (try have hk1_3 : w.heap.size + 1 + 1 + 1 < w1.heap.size := by omega); (try have hk1_4 : wr.heap.size < w1.heap.size := by omega); (try have hk1_5 : wr.heap.size + 1 < w1.heap.size := by omega)
      go_upto_region 2 with fail
      obtain ⟨V, hV⟩ : ∃ V, V = w1.alloc (.cells #[.int .i64 X, .int .i64 Y, .int .i64 x, .int .i64 y] 91) := ⟨_, rfl⟩
      have k0 : heapAt V w1.heap.size = some (.cells #[.int .i64 X, .int .i64 Y, .int .i64 x, .int .i64 y] 91 (0, 0)) := by rw [hV]; exact (by simp (disch := (first | omega | (simp; done) | (simp; omega))) [*])
      have kR : heapAt V (w.heap.size + 1) = some (.cells #[.int .i64 0, .int .i64 0, .int .i64 0, .int .i64 0] 91 (0, 0)) := by rw [hV]; exact (by simp (disch := (first | omega | (simp; done) | (simp; omega))) [*])
      have kb : Below w.heap.size w V := by rw [hV]; exact (by repeat' (first | (with_reducible exact Below.refl _ _) | (with_reducible assumption) | (with_reducible refine Below.setCell ?_ ?_ _) | (with_reducible refine Below.alloc ?_ ?_ _) | (with_reducible refine Below.drew ?_) | (with_reducible refine below_drewN ?_ _) | (with_reducible refine Below.trans ?_ (Below.mono (by with_reducible assumption) ?_)) | go_size | (simp at *; omega)))
      rw [← hV]
      clear hV hb1 hc1 hf1 hB1
      obtain ⟨z0, q1, q2, q3, q4, -⟩ := blk4 k0
      obtain ⟨zR, r1, r2, r3, r4, r5, r6, r7, r8⟩ := blk4 kR
      have hne : w1.heap.size ≠ w.heap.size + 1 := by omega
      go_region_held3 (fun w' => KeptO (w.heap.size + 1) V w') (repeat (first | (with_reducible assumption) | (with_reducible exact kepto_refl _ _) | (with_reducible exact kepto_other (by with_reducible assumption) (by first | omega | (simp; done) | (simp; omega))) | (with_reducible refine kepto_alloc ?_) | (with_reducible refine kepto_drew ?_) | (with_reducible refine kepto_set_same ?_) | (with_reducible refine kepto_set ?_ (by first | omega | (simp; done) | (simp; omega))) | (with_reducible refine kepto_call ?_ hb1))) (first | (go_at_call 50; refine (SX.out _).mono ?_; rintro e w1 ⟨rfl, rfl⟩) | (go_at_call 50; refine (SY.out _).mono ?_; rintro e w1 ⟨rfl, rfl⟩))
      all_goals
        go_wp2_with fail
        apply body_row2 (w.heap.size + 1) 91 Tryd.results69 Tryd.underlying91 rfl rfl rfl; (case q => simp (disch := (first | omega | (simp; done) | (simp; omega))) [*]; try rfl); (case hi => kernel_rfl)
        exact ⟨by rw [← HB.out]; simp [stB, c1, c2], (by repeat' (first | (with_reducible exact Below.refl _ _) | (with_reducible assumption) | (with_reducible refine Below.setCell ?_ ?_ _) | (with_reducible refine Below.alloc ?_ ?_ _) | (with_reducible refine Below.drew ?_) | (with_reducible refine below_drewN ?_ _) | (with_reducible refine Below.trans ?_ (Below.mono (by with_reducible assumption) ?_)) | go_size | (simp at *; omega)))⟩
  · have c1' : decide (X ≤ 1000000000) = false := by simp; omega
    have c1'' : (X ≤ 1000000000) = False := by simp; omega
    go_enter Tryd.func69, Tryd.ntmps69
    go_wp2_with fail; refine (NX.out _).mono ?_; rintro e w1 ⟨rfl, hb1⟩; obtain ⟨hc1, hf1, -, hB1⟩ := bcell hb1; have hz1 := hb1.size; (try simp at hz1); (try have hk1_0 : w.heap.size < w1.heap.size := by omega); (try have hk1_1 : w.heap.size + 1 < w1.heap.size := by omega); (try have hk1_2 : w.heap.size + 1 + 1 < w1.heap.size := by omega); (try have hk1_3 : w.heap.size + 1 + 1 + 1 < w1.heap.size := by omega); (try have hk1_4 : wr.heap.size < w1.heap.size := by omega); (try have hk1_5 : wr.heap.size + 1 < w1.heap.size := by omega)
    go_upto_region 2 with fail
    obtain ⟨V, hV⟩ : ∃ V, V = w1.alloc (.cells #[.int .i64 X, .int .i64 Y, .int .i64 x, .int .i64 y] 91) := ⟨_, rfl⟩
    have k0 : heapAt V w1.heap.size = some (.cells #[.int .i64 X, .int .i64 Y, .int .i64 x, .int .i64 y] 91 (0, 0)) := by rw [hV]; exact (by simp (disch := (first | omega | (simp; done) | (simp; omega))) [*])
    have kR : heapAt V (w.heap.size + 1) = some (.cells #[.int .i64 0, .int .i64 0, .int .i64 0, .int .i64 0] 91 (0, 0)) := by rw [hV]; exact (by simp (disch := (first | omega | (simp; done) | (simp; omega))) [*])
    have kb : Below w.heap.size w V := by rw [hV]; exact (by repeat' (first | (with_reducible exact Below.refl _ _) | (with_reducible assumption) | (with_reducible refine Below.setCell ?_ ?_ _) | (with_reducible refine Below.alloc ?_ ?_ _) | (with_reducible refine Below.drew ?_) | (with_reducible refine below_drewN ?_ _) | (with_reducible refine Below.trans ?_ (Below.mono (by with_reducible assumption) ?_)) | go_size | (simp at *; omega)))
    rw [← hV]
    clear hV hb1 hc1 hf1 hB1
    obtain ⟨z0, q1, q2, q3, q4, -⟩ := blk4 k0
    obtain ⟨zR, r1, r2, r3, r4, r5, r6, r7, r8⟩ := blk4 kR
    have hne : w1.heap.size ≠ w.heap.size + 1 := by omega
    first | go_region_with (go_at_call 50; refine (SX.out _).mono ?_; rintro e w1 ⟨rfl, rfl⟩) | fail
    all_goals
      go_wp2_with fail
      apply body_row2 (w.heap.size + 1) 91 Tryd.results69 Tryd.underlying91 rfl rfl rfl; (case q => simp (disch := (first | omega | (simp; done) | (simp; omega))) [*]; try rfl); (case hi => kernel_rfl)
      have hbb : b = false := by rw [← HB.out]; simp [stB, c1']
      exact ⟨by rw [hbb]; rfl, (by repeat' (first | (with_reducible exact Below.refl _ _) | (with_reducible assumption) | (with_reducible refine Below.setCell ?_ ?_ _) | (with_reducible refine Below.alloc ?_ ?_ _) | (with_reducible refine Below.drew ?_) | (with_reducible refine below_drewN ?_ _) | (with_reducible refine Below.trans ?_ (Below.mono (by with_reducible assumption) ?_)) | go_size | (simp at *; omega)))⟩
end Go.Proofs.YtdbbjmcfpfalhaaDoor
