/- Terms that a bihomographic function emits: the reference's walk. -/
import Derived.Test.YtfnjboaocalidaaDoubleG
namespace Go.Proofs.Ytfnjboaocalidaa
open Go.ChangeShapes Go.WideShapes Go.ChangeAt Go.RowKit
set_option linter.unusedVariables false
set_option maxHeartbeats 20000000
set_option maxRecDepth 20000
theorem l14Emit_any (a b c d e f i h q : Int) (w : World) (hb : bD 1000000000 a b c d e f i h = true) (hq : -1000000000 ≤ q ∧ q ≤ 1000000000) :
    Calls Try.prog 66 #[.agg #[.int .i64 a, .int .i64 b, .int .i64 c, .int .i64 d, .int .i64 e, .int .i64 f, .int .i64 i, .int .i64 h], .int .i64 q] w fun e' w' => e' = .returned (.tuple #[.agg #[.int .i64 e, .int .i64 f, .int .i64 i, .int .i64 h, .int .i64 (a - q * e), .int .i64 (b - q * f), .int .i64 (c - q * i), .int .i64 (d - q * h)], .bool (bD 1000000000 e f i h (a - q * e) (b - q * f) (c - q * i) (d - q * h))]) ∧ Below w.heap.size w w' := by
  obtain ⟨⟨la, ua⟩, ⟨lb, ub⟩, ⟨lc, uc⟩, ⟨ld, ud⟩, he, hf, hi, hh⟩ := bD_iff.1 hb
  obtain ⟨m1, m1'⟩ := mul_s hq he
  obtain ⟨m2, m2'⟩ := mul_s hq hf
  obtain ⟨m3, m3'⟩ := mul_s hq hi
  obtain ⟨m4, m4'⟩ := mul_s hq hh
  clear hb
  go_enter Try.func66, Try.ntmps66
  go_upto_region 4 with (go_at_call 83; refine (l08Big_yes _ _ _ hq (by assumption)).mono ?_; rintro e w1 ⟨rfl, rfl⟩)
  obtain ⟨V, hV⟩ : ∃ V, V = ((w.alloc (.cells #[.int .i64 a, .int .i64 b, .int .i64 c, .int .i64 d, .int .i64 e, .int .i64 f, .int .i64 i, .int .i64 h] 32)).alloc (.cells #[.int .i64 0, .int .i64 0, .int .i64 0, .int .i64 0, .int .i64 0, .int .i64 0, .int .i64 0, .int .i64 0] 32)).alloc (.cells #[.int .i64 e, .int .i64 f, .int .i64 i, .int .i64 h, .int .i64 (a - q * e), .int .i64 (b - q * f), .int .i64 (c - q * i), .int .i64 (d - q * h)] 32) := ⟨_, rfl⟩
  have g0 : heapAt V (w.heap.size + 1 + 1) = some (.cells #[.int .i64 e, .int .i64 f, .int .i64 i, .int .i64 h, .int .i64 (a - q * e), .int .i64 (b - q * f), .int .i64 (c - q * i), .int .i64 (d - q * h)] 32 (0, 0)) := by rw [hV]; exact (by simp (disch := (first | omega | (simp; done) | (simp; omega))) [*])
  have gR : heapAt V (w.heap.size + 1) = some (.cells #[.int .i64 0, .int .i64 0, .int .i64 0, .int .i64 0, .int .i64 0, .int .i64 0, .int .i64 0, .int .i64 0] 32 (0, 0)) := by rw [hV]; exact (by simp (disch := (first | omega | (simp; done) | (simp; omega))) [*])
  have gb : Below w.heap.size w V := by rw [hV]; exact (by repeat' (first | (with_reducible exact Below.refl _ _) | (with_reducible assumption) | (with_reducible refine Below.setCell ?_ ?_ _) | (with_reducible refine Below.alloc ?_ ?_ _) | (with_reducible refine Below.drew ?_) | (with_reducible refine below_drewN ?_ _) | (with_reducible refine Below.trans ?_ (Below.mono (by with_reducible assumption) ?_)) | go_size | (simp at *; omega)))
  rw [← hV]
  clear hV
  have z0 := blk_lt g0
  obtain ⟨p1, p2, p3, p4, p5, p6, p7, p8⟩ := cel8 g0
  obtain ⟨r1, r2, r3, r4, r5, r6, r7, r8⟩ := cel8 gR
  have zR := blk_lt gR
  have f1 := blk_free gR 0
  have f2 := blk_free gR 1
  have f3 := blk_free gR 2
  have f4 := blk_free gR 3
  have f5 := blk_free gR 4
  have f6 := blk_free gR 5
  have f7 := blk_free gR 6
  have f8 := blk_free gR 7
  have hne : w.heap.size + 1 + 1 ≠ w.heap.size + 1 := by omega
  go_region_held3 (fun w' => KeptO (w.heap.size + 1) V w') (repeat (first | (with_reducible assumption) | (with_reducible exact kepto_refl _ _) | (with_reducible exact kepto_other (by with_reducible assumption) (by first | omega | (simp; done) | (simp; omega))) | (with_reducible refine kepto_alloc ?_) | (with_reducible refine kepto_drew ?_) | (with_reducible refine kepto_set_same ?_) | (with_reducible refine kepto_set ?_ (by first | omega | (simp; done) | (simp; omega))) | (with_reducible refine kepto_call ?_ hb1))) (first | (go_at_call 79; refine (l14Fits_any _ _ _ _ _ _ _ _ _).mono ?_; rintro e w1 ⟨rfl, hb1⟩; obtain ⟨hc1, hf1, hl1, hB1⟩ := bcell hb1; (try simp only [World.size_drew, cell_drew, frozen_drew, heapAt_drew] at hc1 hf1 hl1 hB1); have hz1 := hb1.size; (try simp at hz1); (try have hkA := hl1 _ hkA); (try have hkA : _ < w1.heap.size := hz1); (try have hkW : V.heap.size < w1.heap.size := by omega); (try have hk0 : w.heap.size < w1.heap.size := by omega); (try have hk1 : w.heap.size + 1 < w1.heap.size := by omega); (try have hk2 : w.heap.size + 1 + 1 < w1.heap.size := by omega)))
  all_goals
    go_wp2_with fail
    apply body_row2 (w.heap.size + 1) 32 Try.results66 Try.underlying32 rfl rfl rfl; (case q => simp (disch := (first | omega | (simp; done) | (simp; omega))) [*]; try rfl); (case hi => kernel_rfl)
    exact ⟨rfl, (by repeat' (first | (with_reducible exact Below.refl _ _) | (with_reducible assumption) | (with_reducible refine Below.setCell ?_ ?_ _) | (with_reducible refine Below.alloc ?_ ?_ _) | (with_reducible refine Below.drew ?_) | (with_reducible refine below_drewN ?_ _) | (with_reducible refine Below.trans ?_ (Below.mono (by with_reducible assumption) ?_)) | go_size | (simp at *; omega)))⟩
end Go.Proofs.Ytfnjboaocalidaa
