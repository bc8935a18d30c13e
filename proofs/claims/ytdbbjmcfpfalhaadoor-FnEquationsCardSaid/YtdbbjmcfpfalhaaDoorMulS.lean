/- Products of pairs, and the least solution with 1: the reference's walks. -/
import Derived.Test.YtdbbjmcfpfalhaaDoorUnitS
namespace Go.Proofs.YtdbbjmcfpfalhaaDoor
open Go.ChangeShapes Go.WideShapes Go.ChangeAt Go.RowKit
set_option linter.unusedVariables false
set_option maxHeartbeats 8000000
set_option maxRecDepth 20000
theorem l08Big_le (q c : Int) (w : World) (hq : -1000000000000000000 ≤ q ∧ q ≤ 1000000000000000000) (hc : -1000000000000000000 ≤ c ∧ c ≤ 1000000000000000000) (h : ab q * ab c ≤ 1000000000000000000) :
    Calls Tryd.prog 70 #[.int .i64 q, .int .i64 c] w fun e w' => e = .returned (.bool true) ∧ w = w' := by
  by_cases h0 : q = 0
  · subst h0
    go_enter Tryd.func70, Tryd.ntmps70
    go_wp2
    go_ret
    exact ⟨rfl, rfl⟩
  · have h1 : (q == 0) = false := by simp [h0]
    have a1 : 1 ≤ ab q := by unfold ab; omega
    have a2 : ab q ≤ 1000000000000000000 := by unfold ab; omega
    have c1 : ab c ≤ 1000000000000000000 := by unfold ab; omega
    have h2 : ab c ≤ 1000000000000000000 / ab q := by
      rw [Int.le_ediv_iff_mul_le (by omega), Int.mul_comm]
      exact h
    clear h0 h
    go_enter Tryd.func70, Tryd.ntmps70
    go_wp2_with (go_at_call 50; refine (size_any _ _ (by omega)).mono ?_; rintro e w1 ⟨rfl, rfl⟩)
    go_ret
    exact ⟨by simp, rfl⟩
theorem l09Mul_any (d ax ay bx b_ : Int) (w : World) (hd : 2 ≤ d ∧ d ≤ 10000) (h1 : pOk d ax ay = true) (h2 : pOk d bx b_ = true) :
    Calls Tryd.prog 59 #[.int .i64 d, .agg #[.int .i64 ax, .int .i64 ay], .agg #[.int .i64 bx, .int .i64 b_]] w fun e w' => e = .returned (.tuple #[.agg #[.int .i64 (muX d ax ay bx b_), .int .i64 (muY ax ay bx b_)], .bool (muB d ax ay bx b_)]) ∧ Below w.heap.size w w' := by
  have hB := muB_eq hd h1 h2
  obtain ⟨⟨m1, m1'⟩, ⟨m2, m2'⟩, ⟨m3, m3'⟩, ⟨m4, m4'⟩, ⟨m5, m5'⟩, ⟨m6, m6'⟩, m7⟩ := mu_facts hd h1 h2
  obtain ⟨a1, a2, -⟩ := pOk_iff.1 h1
  obtain ⟨b1, b2, -⟩ := pOk_iff.1 h2
  obtain ⟨X, hX⟩ : ∃ X, ax * bx + d * ay * b_ = X := ⟨_, rfl⟩
  obtain ⟨Y, hY⟩ : ∃ Y, ax * b_ + ay * bx = Y := ⟨_, rfl⟩
  have eX : muX d ax ay bx b_ = X := hX
  have eY : muY ax ay bx b_ = Y := hY
  have hA : d * ab ay = ab (d * ay) := by rw [ab_mulI, ab_pos (by omega : 0 ≤ d)]
  have p1 : ab ax * ab bx ≤ 1000000000000000000 := by rw [← ab_mulI]; unfold ab; omega
  have p2 : ab (ab (d * ay)) * ab b_ ≤ 1000000000000000000 := by rw [ab_pos (ab_nonneg _), ← ab_mulI]; unfold ab; omega
  have p3 : ab ax * ab b_ ≤ 1000000000000000000 := by rw [← ab_mulI]; unfold ab; omega
  have p4 : ab ay * ab bx ≤ 1000000000000000000 := by rw [← ab_mulI]; unfold ab; omega
  have l1 : ab (d * ay) ≤ 10000000000000 := by unfold ab; omega
  have l2 := ab_nonneg (d * ay)
  have l3 : ab ay ≤ 1000000000 := by unfold ab; omega
  have l4 := ab_nonneg ay
  have B1 := Lib.hid (l08Big_le ax bx · (by omega) (by omega) p1)
  have B2 := Lib.hid (l08Big_le (ab (d * ay)) b_ · (by omega) (by omega) p2)
  have B3 := Lib.hid (l08Big_le ax b_ · (by omega) (by omega) p3)
  have B4 := Lib.hid (l08Big_le ay bx · (by omega) (by omega) p4)
  have SZ := Lib.hid (size_any ay · (by omega))
  generalize ab (d * ay) = DA at *
  generalize ab ay = AA at *
  rw [eX, eY, hB, eX, eY]
  have OKC := Lib.hid (by have h := l09Ok_any d X Y · hd; exact h)
  generalize pOk d X Y = ok at *
  clear p1 p2 p3 p4 eX eY hB m7 h1 h2
  go_enter Tryd.func59, Tryd.ntmps59
  go_upto_region 1 with fail
  go_quiet ((first | (go_at_call 50; with_reducible exact quiet_left (SZ.out _)) | (go_at_call 70; first | (with_reducible exact quiet_left (B1.out _)) | (with_reducible exact quiet_left (B2.out _)) | (with_reducible exact quiet_left (B3.out _)) | (with_reducible exact quiet_left (B4.out _)))))
  go_wp2_with fail
  obtain ⟨V, hV⟩ : ∃ V, V = ((((w.alloc (.cells #[.int .i64 ax, .int .i64 ay] 32)).alloc (.cells #[.int .i64 bx, .int .i64 b_] 32)).alloc (.cells #[.int .i64 0, .int .i64 0] 32)).drewN nq).alloc (.cells #[.int .i64 X, .int .i64 Y] 32) := ⟨_, rfl⟩
  have k0 : heapAt V (w.heap.size + 1 + 1 + 1) = some (.cells #[.int .i64 X, .int .i64 Y] 32 (0, 0)) := by rw [hV]; have h := heapAt_new ((((w.alloc (.cells #[.int .i64 ax, .int .i64 ay] 32)).alloc (.cells #[.int .i64 bx, .int .i64 b_] 32)).alloc (.cells #[.int .i64 0, .int .i64 0] 32)).drewN nq) (.cells #[.int .i64 X, .int .i64 Y] 32); simp at h; exact h
  have kR : heapAt V (w.heap.size + 1 + 1) = some (.cells #[.int .i64 0, .int .i64 0] 32 (0, 0)) := by rw [hV]; exact (by simp (disch := (first | omega | (simp; done) | (simp; omega))) [*])
  have kb : Below w.heap.size w V := by rw [hV]; exact (by repeat' (first | (with_reducible exact Below.refl _ _) | (with_reducible assumption) | (with_reducible refine Below.setCell ?_ ?_ _) | (with_reducible refine Below.alloc ?_ ?_ _) | (with_reducible refine Below.drew ?_) | (with_reducible refine below_drewN ?_ _) | (with_reducible refine Below.trans ?_ (Below.mono (by with_reducible assumption) ?_)) | go_size | (simp at *; omega)))
  rw [← hV]
  clear hV
  obtain ⟨z0, p1, p2, -⟩ := blk2 k0
  obtain ⟨zR, r1, r2, r3, r4⟩ := blk2 kR
  have hne : w.heap.size + 1 + 1 + 1 ≠ w.heap.size + 1 + 1 := by omega
  go_region_held3 (fun w' => KeptO (w.heap.size + 1 + 1) V w') (repeat (first | (with_reducible assumption) | (with_reducible exact kepto_refl _ _) | (with_reducible exact kepto_other (by with_reducible assumption) (by first | omega | (simp; done) | (simp; omega))) | (with_reducible refine kepto_alloc ?_) | (with_reducible refine kepto_drew ?_) | (with_reducible refine kepto_set_same ?_) | (with_reducible refine kepto_set ?_ (by first | omega | (simp; done) | (simp; omega))) | (with_reducible refine kepto_call ?_ hb1))) (first | (go_at_call 55; refine (OKC.out _).mono ?_; rintro e w1 ⟨rfl, hb1⟩; obtain ⟨hc1, hf1, hl1, hB1⟩ := bcell hb1; (try simp only [World.size_drew, cell_drew, frozen_drew, heapAt_drew] at hc1 hf1 hl1 hB1); have hz1 := hb1.size; (try simp at hz1); (try have hkA := hl1 _ hkA); (try have hkA : _ < w1.heap.size := hz1); (try have hkW : V.heap.size < w1.heap.size := by omega); (try have hk0 : w.heap.size < w1.heap.size := by omega); (try have hk1 : w.heap.size + 1 < w1.heap.size := by omega); (try have hk2 : w.heap.size + 1 + 1 < w1.heap.size := by omega)))
  all_goals
    go_wp2_with fail
    apply body_row2 (w.heap.size + 1 + 1) 32 Tryd.results59 Tryd.underlying32 rfl rfl rfl; (case q => simp (disch := (first | omega | (simp; done) | (simp; omega))) [*]; try rfl); (case hi => kernel_rfl)
    exact ⟨rfl, (by repeat' (first | (with_reducible exact Below.refl _ _) | (with_reducible assumption) | (with_reducible refine Below.setCell ?_ ?_ _) | (with_reducible refine Below.alloc ?_ ?_ _) | (with_reducible refine Below.drew ?_) | (with_reducible refine below_drewN ?_ _) | (with_reducible refine Below.trans ?_ (Below.mono (by with_reducible assumption) ?_)) | go_size | (simp at *; omega)))⟩
end Go.Proofs.YtdbbjmcfpfalhaaDoor
