/- The next surd of a root's period: both packages. -/
import Derived.Test.YtdbbjmcfpfalhaaDoorSurdB
import Derived.Test.YtdbbjmcfpfalhaaDoorMemB
namespace Go.Proofs.YtdbbjmcfpfalhaaDoor
open Go.ChangeShapes Go.WideShapes Go.ChangeAt Go.RowKit
set_option linter.unusedVariables false
set_option maxHeartbeats 4000000
/-- (p, d, q) is followed by (p', d, q'); a is its floor. -/
structure Nx (d p q a p' q' : Int) : Prop where
  d1 : 2 ≤ d
  d2 : d ≤ 10000
  sq : sqB d = false
  p0 : 0 ≤ p
  p1 : p ≤ 99
  q0 : 1 ≤ q
  q1 : q ≤ 10000
  fa : fl (p + rt d) q = a
  a0 : 1 ≤ a
  a1 : a ≤ 198
  ap : a * q - p = p'
  b0 : 1 ≤ p'
  b1 : p' ≤ 99
  dv : (d - p' * p').tdiv q = q'
  c0 : 1 ≤ q'
  c1 : q' ≤ 10000
  md : (d - p' * p').tmod q' = 0
theorem nextSurd_any (d p q a p' q' : Int) (w : World) (X : Nx d p q a p' q') :
    Calls Tryd.prog 87 #[.agg #[.int .i64 p, .int .i64 d, .int .i64 q]] w fun e w' => e = .returned (.tuple #[.int .i64 a, .agg #[.int .i64 p', .int .i64 d, .int .i64 q'], .bool true]) ∧ Below w.heap.size w w' := by
  obtain ⟨d1, d2, sq, p0, p1, q0, q1, fa, a0, a1, ap, b0, b1, dv, c0, c1, md⟩ := X
  have FS := Lib.hid (by have h := floorSurd_any p d q · ⟨by omega, by omega⟩ ⟨by omega, by omega⟩ ⟨by omega, by omega⟩; rw [fa] at h; exact h)
  have VS := Lib.hid (validSurd_yes p' d q' · ⟨by omega, by omega⟩ ⟨by omega, by omega⟩ sq ⟨by omega, by omega⟩ md)
  obtain ⟨m, hm⟩ : ∃ m, a * q = m := ⟨_, rfl⟩
  obtain ⟨s, hs⟩ : ∃ s, p' * p' = s := ⟨_, rfl⟩
  obtain ⟨t, ht⟩ : ∃ t, d - s = t := ⟨_, rfl⟩
  have s0 : 0 ≤ s ∧ s ≤ 9801 := by rw [← hs]; exact ⟨Int.mul_nonneg (by omega) (by omega), by have := Int.mul_le_mul b1 b1 (by omega) (by omega : (0 : Int) ≤ 99); omega⟩
  rw [hm] at ap
  rw [hs, ht] at dv
  have m1 : m = p' + p := by omega
  have wm : IntKind.i64.wrap m = m := IntWalk.i64_in _ (by omega)
  have ws : IntKind.i64.wrap s = s := IntWalk.i64_in _ (by omega)
  have wt : IntKind.i64.wrap t = t := IntWalk.i64_in _ (by omega)
  have wq : IntKind.i64.wrap q' = q' := IntWalk.i64_in _ (by omega)
  have qn : (q = 0) = False := by simp; omega
  have t1 : -10000 ≤ t ∧ t ≤ 10000 := by omega
  have M1 := Lib.hid m1
  clear fa md sq m1
  go_enter Tryd.func87, Tryd.ntmps87
  go_wp2_with fail; refine (FS.out _).mono ?_; rintro e w1 ⟨rfl, hb1⟩; obtain ⟨hc1, hf1, -, hB1⟩ := bcell hb1; have hz1 := hb1.size; (try simp at hz1); (try have hk1_0 : w.heap.size < w1.heap.size := by omega); (try have hk1_1 : w.heap.size + 1 < w1.heap.size := by omega); (try have hk1_2 : w.heap.size + 1 + 1 < w1.heap.size := by omega); (try have hk1_3 : w.heap.size + 1 + 1 + 1 < w1.heap.size := by omega); (try have hk1_4 : wr.heap.size < w1.heap.size := by omega); (try have hk1_5 : wr.heap.size + 1 < w1.heap.size := by omega)
  go_upto_region 3 with fail
  have g0 : heapAt w1 w.heap.size = some (.cells #[.int .i64 p, .int .i64 d, .int .i64 q] 86 (0, 0)) := (by simp (disch := (first | omega | (simp; done) | (simp; omega))) [*])
  have gR : heapAt w1 (w.heap.size + 1) = some (.cells #[.int .i64 0, .int .i64 0, .int .i64 0] 86 (0, 0)) := (by simp (disch := (first | omega | (simp; done) | (simp; omega))) [*])
  have gb : Below w.heap.size w w1 := (by repeat' (first | (with_reducible exact Below.refl _ _) | (with_reducible assumption) | (with_reducible refine Below.setCell ?_ ?_ _) | (with_reducible refine Below.alloc ?_ ?_ _) | (with_reducible refine Below.drew ?_) | (with_reducible refine below_drewN ?_ _) | (with_reducible refine Below.trans ?_ (Below.mono (by with_reducible assumption) ?_)) | go_size | (simp at *; omega)))
  clear hb1 hc1 hf1 hB1 hz1
  obtain ⟨z0, p1, p2, p3, -⟩ := blk3 g0
  go_region_held3 (fun w' => Kept w1 w') (repeat (first | (with_reducible assumption) | (with_reducible exact kept_refl _) | (with_reducible exact kept_other (by with_reducible assumption) (by simp)) | (with_reducible refine kept_alloc ?_) | (with_reducible refine kept_drew ?_))) (fail)
  obtain ⟨V, hV⟩ : ∃ V, V = (w1.alloc (.cells #[.int .i64 p', .int .i64 d, .int .i64 q'] 86)).drew := ⟨_, rfl⟩
  have k0 : heapAt V w1.heap.size = some (.cells #[.int .i64 p', .int .i64 d, .int .i64 q'] 86 (0, 0)) := by rw [hV]; exact (by simp (disch := (first | omega | (simp; done) | (simp; omega))) [*])
  have kR : heapAt V (w.heap.size + 1) = some (.cells #[.int .i64 0, .int .i64 0, .int .i64 0] 86 (0, 0)) := by rw [hV]; exact (by simp (disch := (first | omega | (simp; done) | (simp; omega))) [*])
  have kb : Below w.heap.size w V := by rw [hV]; exact (by repeat' (first | (with_reducible exact Below.refl _ _) | (with_reducible assumption) | (with_reducible refine Below.setCell ?_ ?_ _) | (with_reducible refine Below.alloc ?_ ?_ _) | (with_reducible refine Below.drew ?_) | (with_reducible refine below_drewN ?_ _) | (with_reducible refine Below.trans ?_ (Below.mono (by with_reducible assumption) ?_)) | go_size | (simp at *; omega)))
  rw [← hV]
  clear hV g0 gR gb p1 p2 p3 z0
  obtain ⟨z0, p1, p2, p3, -⟩ := blk3 k0
  obtain ⟨zR, r1, r2, r3, r4, r5, r6⟩ := blk3 kR
  have hne : w1.heap.size ≠ w.heap.size + 1 := by omega
  go_wp2_with fail
  go_region_held3 (fun w' => KeptO (w.heap.size + 1) V w') (repeat (first | (with_reducible assumption) | (with_reducible exact kepto_refl _ _) | (with_reducible exact kepto_other (by with_reducible assumption) (by first | omega | (simp; done) | (simp; omega))) | (with_reducible refine kepto_alloc ?_) | (with_reducible refine kepto_drew ?_) | (with_reducible refine kepto_set_same ?_) | (with_reducible refine kepto_set ?_ (by first | omega | (simp; done) | (simp; omega))) | (with_reducible refine kepto_call ?_ hb1))) (first | (go_at_call 89; refine (VS.out _).mono ?_; rintro e w1 ⟨rfl, hb1⟩; obtain ⟨hc1, hf1, hl1, hB1⟩ := bcell hb1; (try simp only [World.size_drew, cell_drew, frozen_drew, heapAt_drew] at hc1 hf1 hl1 hB1); have hz1 := hb1.size; (try simp at hz1); (try have hkA := hl1 _ hkA); (try have hkA : _ < w1.heap.size := hz1); (try have hkW : V.heap.size < w1.heap.size := by omega); (try have hk0 : w.heap.size < w1.heap.size := by omega); (try have hk1 : w.heap.size + 1 < w1.heap.size := by omega); (try have hk2 : w.heap.size + 1 + 1 < w1.heap.size := by omega)))
  all_goals
    go_wp2_with fail
    apply body_row3 (w.heap.size + 1) 86 Tryd.results87 Tryd.underlying86 rfl rfl rfl; (case q => simp (disch := (first | omega | (simp; done) | (simp; omega))) [*]; try rfl); (case hi => kernel_rfl)
    exact ⟨rfl, (by repeat' (first | (with_reducible exact Below.refl _ _) | (with_reducible assumption) | (with_reducible refine Below.setCell ?_ ?_ _) | (with_reducible refine Below.alloc ?_ ?_ _) | (with_reducible refine Below.drew ?_) | (with_reducible refine below_drewN ?_ _) | (with_reducible refine Below.trans ?_ (Below.mono (by with_reducible assumption) ?_)) | go_size | (simp at *; omega)))⟩
theorem l07Next_any (d p q a p' q' : Int) (w : World) (X : Nx d p q a p' q') :
    Calls Tryd.prog 79 #[.agg #[.int .i64 p, .int .i64 d, .int .i64 q], .int .i64 a] w fun e w' => e = .returned (.tuple #[.agg #[.int .i64 p', .int .i64 d, .int .i64 q'], .bool true]) ∧ Below w.heap.size w w' := by
  obtain ⟨d1, d2, sq, p0, p1, q0, q1, fa, a0, a1, ap, b0, b1, dv, c0, c1, md⟩ := X
  have VS := Lib.hid (l07Ok_yes p' d q' · ⟨by omega, by omega⟩ ⟨by omega, by omega⟩ sq ⟨by omega, by omega⟩ md)
  have IN := Lib.hid (by have h := in_any p' (-1000000) 1000000; rw [inR_yes (n := p') (lo := -1000000) (hi := 1000000) (by omega) (by omega)] at h; exact h)
  obtain ⟨m, hm⟩ : ∃ m, a * q = m := ⟨_, rfl⟩
  obtain ⟨s, hs⟩ : ∃ s, p' * p' = s := ⟨_, rfl⟩
  obtain ⟨t, ht⟩ : ∃ t, d - s = t := ⟨_, rfl⟩
  have s0 : 0 ≤ s ∧ s ≤ 9801 := by rw [← hs]; exact ⟨Int.mul_nonneg (by omega) (by omega), by have := Int.mul_le_mul b1 b1 (by omega) (by omega : (0 : Int) ≤ 99); omega⟩
  rw [hm] at ap
  rw [hs, ht] at dv
  have m1 : m = p' + p := by omega
  have wm : IntKind.i64.wrap m = m := IntWalk.i64_in _ (by omega)
  have ws : IntKind.i64.wrap s = s := IntWalk.i64_in _ (by omega)
  have wt : IntKind.i64.wrap t = t := IntWalk.i64_in _ (by omega)
  have wq : IntKind.i64.wrap q' = q' := IntWalk.i64_in _ (by omega)
  have qn : (q = 0) = False := by simp; omega
  have t1 : -10000 ≤ t ∧ t ≤ 10000 := by omega
  have M1 := Lib.hid m1
  clear fa md sq m1
  go_enter Tryd.func79, Tryd.ntmps79
  go_upto_region 4 with (go_at_call 33; refine (IN.out _).mono ?_; rintro e w' ⟨rfl, rfl⟩)
  obtain ⟨U, hU⟩ : ∃ U, U = (w.alloc (.cells #[.int .i64 p, .int .i64 d, .int .i64 q] 86)).alloc (.cells #[.int .i64 0, .int .i64 0, .int .i64 0] 86) := ⟨_, rfl⟩
  have g0 : heapAt U w.heap.size = some (.cells #[.int .i64 p, .int .i64 d, .int .i64 q] 86 (0, 0)) := by rw [hU]; exact (by simp (disch := (first | omega | (simp; done) | (simp; omega))) [*])
  have gR : heapAt U (w.heap.size + 1) = some (.cells #[.int .i64 0, .int .i64 0, .int .i64 0] 86 (0, 0)) := by rw [hU]; exact (by simp (disch := (first | omega | (simp; done) | (simp; omega))) [*])
  have gb : Below w.heap.size w U := by rw [hU]; exact (by repeat' (first | (with_reducible exact Below.refl _ _) | (with_reducible assumption) | (with_reducible refine Below.setCell ?_ ?_ _) | (with_reducible refine Below.alloc ?_ ?_ _) | (with_reducible refine Below.drew ?_) | (with_reducible refine below_drewN ?_ _) | (with_reducible refine Below.trans ?_ (Below.mono (by with_reducible assumption) ?_)) | go_size | (simp at *; omega)))
  have hk1_1 : w.heap.size + 1 < U.heap.size := by rw [hU]; simp
  rw [← hU]
  clear hU
  obtain ⟨z0, p1, p2, p3, -⟩ := blk3 g0
  go_region_held3 (fun w' => Kept U w') (repeat (first | (with_reducible assumption) | (with_reducible exact kept_refl _) | (with_reducible exact kept_other (by with_reducible assumption) (by simp)) | (with_reducible refine kept_alloc ?_) | (with_reducible refine kept_drew ?_))) (fail)
  obtain ⟨V, hV⟩ : ∃ V, V = (U.alloc (.cells #[.int .i64 p', .int .i64 d, .int .i64 q'] 86)).drew := ⟨_, rfl⟩
  have k0 : heapAt V U.heap.size = some (.cells #[.int .i64 p', .int .i64 d, .int .i64 q'] 86 (0, 0)) := by rw [hV]; exact (by simp (disch := (first | omega | (simp; done) | (simp; omega))) [*])
  have kR : heapAt V (w.heap.size + 1) = some (.cells #[.int .i64 0, .int .i64 0, .int .i64 0] 86 (0, 0)) := by rw [hV]; exact (by simp (disch := (first | omega | (simp; done) | (simp; omega))) [*])
  have kb : Below w.heap.size w V := by rw [hV]; exact (by repeat' (first | (with_reducible exact Below.refl _ _) | (with_reducible assumption) | (with_reducible refine Below.setCell ?_ ?_ _) | (with_reducible refine Below.alloc ?_ ?_ _) | (with_reducible refine Below.drew ?_) | (with_reducible refine below_drewN ?_ _) | (with_reducible refine Below.trans ?_ (Below.mono (by with_reducible assumption) ?_)) | go_size | (simp at *; omega)))
  rw [← hV]
  clear hV g0 gR gb p1 p2 p3 z0
  obtain ⟨z0, p1, p2, p3, -⟩ := blk3 k0
  obtain ⟨zR, r1, r2, r3, r4, r5, r6⟩ := blk3 kR
  have hne : U.heap.size ≠ w.heap.size + 1 := by omega
  go_wp2_with fail
  go_region_held3 (fun w' => KeptO (w.heap.size + 1) V w') (repeat (first | (with_reducible assumption) | (with_reducible exact kepto_refl _ _) | (with_reducible exact kepto_other (by with_reducible assumption) (by first | omega | (simp; done) | (simp; omega))) | (with_reducible refine kepto_alloc ?_) | (with_reducible refine kepto_drew ?_) | (with_reducible refine kepto_set_same ?_) | (with_reducible refine kepto_set ?_ (by first | omega | (simp; done) | (simp; omega))) | (with_reducible refine kepto_call ?_ hb1))) (first | (go_at_call 86; refine (VS.out _).mono ?_; rintro e w1 ⟨rfl, hb1⟩; obtain ⟨hc1, hf1, hl1, hB1⟩ := bcell hb1; (try simp only [World.size_drew, cell_drew, frozen_drew, heapAt_drew] at hc1 hf1 hl1 hB1); have hz1 := hb1.size; (try simp at hz1); (try have hkA := hl1 _ hkA); (try have hkA : _ < w1.heap.size := hz1); (try have hkW : V.heap.size < w1.heap.size := by omega); (try have hk0 : w.heap.size < w1.heap.size := by omega); (try have hk1 : w.heap.size + 1 < w1.heap.size := by omega); (try have hk2 : w.heap.size + 1 + 1 < w1.heap.size := by omega)))
  all_goals
    go_wp2_with fail
    apply body_row2 (w.heap.size + 1) 86 Tryd.results79 Tryd.underlying86 rfl rfl rfl; (case q => simp (disch := (first | omega | (simp; done) | (simp; omega))) [*]; try rfl); (case hi => kernel_rfl)
    exact ⟨rfl, (by repeat' (first | (with_reducible exact Below.refl _ _) | (with_reducible assumption) | (with_reducible refine Below.setCell ?_ ?_ _) | (with_reducible refine Below.alloc ?_ ?_ _) | (with_reducible refine Below.drew ?_) | (with_reducible refine below_drewN ?_ _) | (with_reducible refine Below.trans ?_ (Below.mono (by with_reducible assumption) ?_)) | go_size | (simp at *; omega)))⟩
end Go.Proofs.YtdbbjmcfpfalhaaDoor
