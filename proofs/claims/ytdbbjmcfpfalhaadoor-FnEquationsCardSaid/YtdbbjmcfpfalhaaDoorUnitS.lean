/- The unit of a root: the reference's walk. -/
import Derived.Test.YtdbbjmcfpfalhaaDoorStep
import Derived.Test.YtdbbjmcfpfalhaaDoorLeast
namespace Go.Proofs.YtdbbjmcfpfalhaaDoor
open Go.ChangeShapes Go.WideShapes Go.ChangeAt Go.RowKit
set_option linter.unusedVariables false
set_option maxHeartbeats 8000000
set_option maxRecDepth 20000
/-- A pair (whatever, where it is not plain), the period's length, and whether the pair is plain. -/
def RetU (X Y n : Int) (ok : Bool) (w : World) (e : Ending) (w' : World) : Prop :=
  ∃ x y : Int, e = .returned (.tuple #[.agg #[.int .i64 x, .int .i64 y], .int .i64 n, .bool ok]) ∧ (ok = true → x = X ∧ y = Y) ∧ Below w.heap.size w w'
theorem stB_no {d X Y : Int} (h : stB X Y = false) : pOk d X Y = false := by
  cases hp : pOk d X Y with
  | false => rfl
  | true =>
    obtain ⟨a, b, -⟩ := pOk_iff.1 hp
    simp only [stB, Bool.and_eq_false_iff, decide_eq_false_iff_not] at h
    omega
theorem cv_stB {d : Int} {D r n : Nat} (H : PerI d D r n) {k : Nat} (hk : k ≤ n) (hs : stB (cv D r k).x (cv D r k).y = true) :
    (0 ≤ sA D r k * (cv D r k).x ∧ sA D r k * (cv D r k).x ≤ 198000000000) ∧ (0 ≤ sA D r k * (cv D r k).y ∧ sA D r k * (cv D r k).y ≤ 198000000000) ∧ (0 ≤ (cv D r k).u ∧ (cv D r k).u ≤ 1000000000) ∧ (0 ≤ (cv D r k).v ∧ (cv D r k).v ≤ 1000000000) ∧
    (cv D r k).x ≤ 1000000000 ∧ (cv D r k).y ≤ 1000000000 := by
  obtain ⟨a1, a2, a3, a4⟩ := cv_nn (D := D) (r := r) k
  simp only [stB, Bool.and_eq_true, decide_eq_true_eq] at hs
  have ha := H.a hk
  have m1 := Int.mul_le_mul (by omega : (sA D r k : Int) ≤ 198) hs.1 a1 (by omega)
  have m2 := Int.mul_le_mul (by omega : (sA D r k : Int) ≤ 198) hs.2 a2 (by omega)
  have m3 := Int.mul_nonneg (by omega : (0 : Int) ≤ sA D r k) a1
  have m4 := Int.mul_nonneg (by omega : (0 : Int) ≤ sA D r k) a2
  refine ⟨⟨m3, by omega⟩, ⟨m4, by omega⟩, ?_, ?_, hs.1, hs.2⟩
  · cases k with
    | zero => simp [cv]
    | succ k => have := cv_up H (k := k) (by omega); exact ⟨a3, Int.le_trans this.1 hs.1⟩
  · cases k with
    | zero => simp [cv]
    | succ k => have := cv_up H (k := k) (by omega); exact ⟨a4, Int.le_trans this.2 hs.2⟩
theorem l09Unit_any (d : Int) (D r n : Nat) (H : PerI d D r n) (w : World) :
    Calls Tryd.prog 58 #[.int .i64 d] w (RetU (cv D r n).x (cv D r n).y n (pOk d (cv D r n).x (cv D r n).y) w) := by
  have HW := Lib.hid (l08Walk_any d D r n H ·)
  have HH := Lib.hid H
  have hd1 : 2 ≤ d ∧ d ≤ 10000 := by have := H.d1; have := H.d2; have := H.eD; omega
  have hn2 := H.per.n2
  have hn1 := H.per.n1
  clear H
  obtain ⟨X, hX⟩ : ∃ X, X = (cv D r n).x := ⟨_, rfl⟩
  obtain ⟨Y, hY⟩ : ∃ Y, Y = (cv D r n).y := ⟨_, rfl⟩
  obtain ⟨ok, hok⟩ : ∃ ok, ok = pOk d X Y := ⟨_, rfl⟩
  rw [← hX, ← hY, ← hok]
  have HX := Lib.hid hX
  have HY := Lib.hid hY
  have HOK := Lib.hid hok
  clear hX hY hok
  go_enter Tryd.func58, Tryd.ntmps58
  go_wp2_with fail
  refine (HW.out _).mono ?_
  rintro e wa ⟨g, vS, vT, rfl, hg, oT, hne0, hg0, hb1⟩
  have hz1 := hb1.size
  simp at hz1 hg0
  rcases oT.shape with ⟨h0, -⟩ | ⟨-, bT, cT, rfl, hT1, hTb, hTc⟩
  · have := congrArg List.length h0
    rw [tL_len] at this
    simp at this
  rw [tL_len] at hg
  have OT := Lib.hid oT
  have gR1 : heapAt wa w.heap.size = some (.cells #[.int .i64 0, .int .i64 0] 32 (0, 0)) := (hb1.block w.heap.size (by simp)).trans (heapAt_new w _)
  have hb1' : Below w.heap.size w wa := (by repeat' (first | (with_reducible exact Below.refl _ _) | (with_reducible assumption) | (with_reducible refine Below.setCell ?_ ?_ _) | (with_reducible refine Below.alloc ?_ ?_ _) | (with_reducible refine Below.drew ?_) | (with_reducible refine below_drewN ?_ _) | (with_reducible refine Below.trans ?_ (Below.mono (by with_reducible assumption) ?_)) | go_size | (simp at *; omega)))
  obtain ⟨zg, q1, q2, q3, g1, g2, g3⟩ := blk3 hg
  clear oT hT1 hne0 hb1
  go_upto_region 2 with fail
  go_quiet (fail)
  go_wp2_with fail
  obtain ⟨wq, hwq⟩ : ∃ wq, wq = wa.drewN nq := ⟨_, rfl⟩
  have hbq : Below wa.heap.size wa wq := by rw [hwq]; exact below_drewN (Below.refl _ _) nq
  rw [← hwq]
  clear hwq q1 q2 q3 g1 g2 g3
  have hzq := hbq.size
  have gRq : heapAt wq w.heap.size = some (.cells #[.int .i64 0, .int .i64 0] 32 (0, 0)) := (hbq.block _ (by omega)).trans gR1
  have hgq : heapAt wq g = some (.cells #[vS, .slice (some ⟨bT, 0, none⟩) (n + 1) cT, .int .i64 1] 89 (0, 0)) := (hbq.block _ zg).trans hg
  have OTq := Lib.hid (OT.out.below hbq)
  have hbwq : Below w.heap.size w wq := hb1'.trans (hbq.mono (by omega))
  clear hbq hg gR1 hb1' OT
  refine (l03New_any _).mono ?_
  rintro e w3 ⟨rfl, hb3⟩
  have hz3 := hb3.size
  have zgq := blk_lt hgq
  have zRq := blk_lt gRq
  have gR3 : heapAt w3 w.heap.size = some (.cells #[.int .i64 0, .int .i64 0] 32 (0, 0)) := (hb3.block _ zRq).trans gRq
  have hg3 : heapAt w3 g = some (.cells #[vS, .slice (some ⟨bT, 0, none⟩) (n + 1) cT, .int .i64 1] 89 (0, 0)) := (hb3.block _ zgq).trans hgq
  have OT3 := Lib.hid (OTq.out.below hb3)
  have hbw3 : Below w.heap.size w w3 := hbwq.trans (hb3.mono (by omega))
  have zg3 : g < w3.heap.size := by omega
  have zT3 : bT < w3.heap.size := by omega
  have zR3 : w.heap.size < w3.heap.size := by omega
  clear hb3 hgq gRq OTq hbwq hzq zg
  go_wp2_with fail
  go_loopg [9] (n + 1) (fun k i wr => ∃ j : Nat, i = .int .i64 j ∧ j + k = n + 1 ∧ j ≤ n ∧ Hid (stB (cv D r j).x (cv D r j).y = true) ∧
    heapAt wr w3.heap.size = some (.cells #[.int .i64 (cv D r j).x, .int .i64 (cv D r j).y, .int .i64 (cv D r j).u, .int .i64 (cv D r j).v] 91 (0, 0)) ∧ Below w3.heap.size w3 wr)
  case atStart => exact ⟨0, rfl, by omega, by omega, Lib.hid (by simp [cv, stB]), (by show heapAt _ _ = some (.cells #[.int .i64 1, .int .i64 0, .int .i64 0, .int .i64 1] 91 (0, 0)); exact (by simp (disch := (first | omega | (simp; done) | (simp; omega))) [*])), (by repeat' (first | (with_reducible exact Below.refl _ _) | (with_reducible assumption) | (with_reducible refine Below.setCell ?_ ?_ _) | (with_reducible refine Below.alloc ?_ ?_ _) | (with_reducible refine Below.drew ?_) | (with_reducible refine below_drewN ?_ _) | (with_reducible refine Below.trans ?_ (Below.mono (by with_reducible assumption) ?_)) | go_size | (simp at *; omega)))⟩
  case round =>
    obtain ⟨j, rfl, hjk, hjn, HS, hC, hbel⟩ := hrel
    obtain ⟨⟨tx0, tx1⟩, ⟨ty0, ty1⟩, ⟨u0, u1⟩, ⟨v0, v1⟩, x1, y1⟩ := cv_stB HH.out hjn HS.out
    have gRr : heapAt wr w.heap.size = some (.cells #[.int .i64 0, .int .i64 0] 32 (0, 0)) := (hbel.block _ (by omega)).trans gR3
    have hgr : heapAt wr g = some (.cells #[vS, .slice (some ⟨bT, 0, none⟩) (n + 1) cT, .int .i64 1] 89 (0, 0)) := (hbel.block _ (by omega)).trans hg3
    have hbw : Below w.heap.size w wr := hbw3.trans (hbel.mono (by omega))
    obtain ⟨zC, c1, c2, c3, c4, e1, e2, e3, e4⟩ := blk4 hC
    obtain ⟨zR, r1, r2, r3, r4⟩ := blk2 gRr
    have zT : bT < wr.heap.size := by have := hbel.size; omega
    by_cases hlt : j < n
    · have hidx : j < (tL D r (n + 1)).length := by rw [tL_len]; omega
      have o3 := OT3.out.below hbel
      have p1 := OwnI.cells o3 j hidx
      rw [tL_at] at p1
      clear o3
      obtain ⟨zg, q1, q2, q3, g1, g2, g3⟩ := blk3 hgr
      have i0 : (0 : Int) ≤ (j : Int) := by omega
      have i1 : (j : Int) < (n : Int) := by omega
      have i2 : (j : Int) < (n : Int) + 1 := by omega
      have ex : sA D r j * (cv D r j).x + (cv D r j).u = (cv D r (j + 1)).x := rfl
      have ey : sA D r j * (cv D r j).y + (cv D r j).v = (cv D r (j + 1)).y := rfl
      obtain ⟨nx, ny, nu, nv⟩ := cv_nn (D := D) (r := r) (j + 1)
      have eu : (cv D r (j + 1)).u = (cv D r j).x := rfl
      have ev : (cv D r (j + 1)).v = (cv D r j).y := rfl
      have EU := Lib.hid eu
      have EV := Lib.hid ev
      clear eu ev nu nv
      cases hs : stB (cv D r (j + 1)).x (cv D r (j + 1)).y
      · have hno : pOk d X Y = false := by
          cases hq : pOk d X Y with
          | false => rfl
          | true =>
            rw [HX.out, HY.out] at hq
            have := cv_plain HH.out (k := j + 1) (by omega) (Nat.le_refl _) hq
            rw [stB_no hs] at this
            cases this
        have hok : ok = false := HOK.out.trans hno
        subst hok
        have ST := Lib.hid (l08Step_any (cv D r j).x (cv D r j).y (cv D r j).u (cv D r j).v (sA D r j : Nat) (cv D r (j + 1)).x (cv D r (j + 1)).y false · hs ex ey nx ny ⟨by omega, by omega⟩ ⟨by omega, by omega⟩ ⟨by omega, by omega⟩ ⟨by omega, by omega⟩)
        clear ex ey hs hno
        go_upto_region 7 with fail
        go_region_held3 (fun w' => Kept wr w') (repeat (first | (with_reducible assumption) | (with_reducible exact kept_refl _) | (with_reducible exact kept_other (by with_reducible assumption) (by first | omega | (simp; done) | (simp; omega))) | (with_reducible refine kept_alloc ?_) | (with_reducible refine kept_drew ?_) | (with_reducible refine kept_set ?_ (by first | omega | (simp; done) | (simp; omega))) | (with_reducible refine kept_call ?_ hb1))) (first | (go_at_call 69; refine (ST.out _).mono ?_; rintro e w1 ⟨rfl, hb1⟩; obtain ⟨hc1, hf1, hl1, hB1⟩ := bcell hb1; (try simp only [World.size_drew, cell_drew, frozen_drew, heapAt_drew] at hc1 hf1 hl1 hB1); have hz1 := hb1.size; (try simp at hz1); (try have hkA := hl1 _ hkA); (try have hkA : _ < w1.heap.size := hz1); (try have hkW : wr.heap.size < w1.heap.size := by omega); (try have hk0 : w.heap.size < w1.heap.size := by omega); (try have hk1 : w.heap.size + 1 < w1.heap.size := by omega); (try have hk2 : w.heap.size + 1 + 1 < w1.heap.size := by omega)))
        all_goals
          go_wp2_with fail
          apply body_row12 (w.heap.size) 32 Tryd.results58 Tryd.underlying32 rfl rfl rfl; (case q => simp (disch := (first | omega | (simp; done) | (simp; omega))) [*]; try rfl); (case hi => kernel_rfl)
          exact ⟨0, 0, rfl, fun h => by (cases h), (by repeat' (first | (with_reducible exact Below.refl _ _) | (with_reducible assumption) | (with_reducible refine Below.setCell ?_ ?_ _) | (with_reducible refine Below.alloc ?_ ?_ _) | (with_reducible refine Below.drew ?_) | (with_reducible refine below_drewN ?_ _) | (with_reducible refine Below.trans ?_ (Below.mono (by with_reducible assumption) ?_)) | go_size | (simp at *; omega)))⟩
      · have ST := Lib.hid (l08Step_any (cv D r j).x (cv D r j).y (cv D r j).u (cv D r j).v (sA D r j : Nat) (cv D r (j + 1)).x (cv D r (j + 1)).y true · hs ex ey nx ny ⟨by omega, by omega⟩ ⟨by omega, by omega⟩ ⟨by omega, by omega⟩ ⟨by omega, by omega⟩)
        have HS2 := Lib.hid hs
        clear ex ey hs
        go_upto_region 7 with fail
        go_region_held3 (fun w' => Kept wr w') (repeat (first | (with_reducible assumption) | (with_reducible exact kept_refl _) | (with_reducible exact kept_other (by with_reducible assumption) (by first | omega | (simp; done) | (simp; omega))) | (with_reducible refine kept_alloc ?_) | (with_reducible refine kept_drew ?_) | (with_reducible refine kept_set ?_ (by first | omega | (simp; done) | (simp; omega))) | (with_reducible refine kept_call ?_ hb1))) (first | (go_at_call 69; refine (ST.out _).mono ?_; rintro e w1 ⟨rfl, hb1⟩; obtain ⟨hc1, hf1, hl1, hB1⟩ := bcell hb1; (try simp only [World.size_drew, cell_drew, frozen_drew, heapAt_drew] at hc1 hf1 hl1 hB1); have hz1 := hb1.size; (try simp at hz1); (try have hkA := hl1 _ hkA); (try have hkA : _ < w1.heap.size := hz1); (try have hkW : wr.heap.size < w1.heap.size := by omega); (try have hk0 : w.heap.size < w1.heap.size := by omega); (try have hk1 : w.heap.size + 1 < w1.heap.size := by omega); (try have hk2 : w.heap.size + 1 + 1 < w1.heap.size := by omega)))
        all_goals
          go_wp2_with fail
          go_roundg (gk - 1)
          case measure => omega
          case rel => exact ⟨j + 1, by go_num, by omega, by omega, HS2, by rw [EU.out, EV.out]; exact (by simp (disch := (first | omega | (simp; done) | (simp; omega))) [*]), (by repeat' (first | (with_reducible exact Below.refl _ _) | (with_reducible assumption) | (with_reducible refine Below.setCell ?_ ?_ _) | (with_reducible refine Below.alloc ?_ ?_ _) | (with_reducible refine Below.drew ?_) | (with_reducible refine below_drewN ?_ _) | (with_reducible refine Below.trans ?_ (Below.mono (by with_reducible assumption) ?_)) | go_size | (simp at *; omega)))⟩
    · have e : j = n := by omega
      subst e
      rw [← HX.out] at c1
      rw [← HY.out] at c2
      have OKC := Lib.hid (by have h := l09Ok_any d X Y · hd1; rw [← HOK.out] at h; exact h)
      clear hgr hC
      go_upto_region 12 with fail
      obtain ⟨V, hV⟩ : ∃ V, V = wr.alloc (.cells #[.int .i64 X, .int .i64 Y] 32) := ⟨_, rfl⟩
      have k0 : heapAt V wr.heap.size = some (.cells #[.int .i64 X, .int .i64 Y] 32 (0, 0)) := by rw [hV]; exact (by simp (disch := (first | omega | (simp; done) | (simp; omega))) [*])
      have kR : heapAt V w.heap.size = some (.cells #[.int .i64 0, .int .i64 0] 32 (0, 0)) := by rw [hV]; exact (heapAt_old zR).trans gRr
      have kb : Below w.heap.size w V := by rw [hV]; exact (by repeat' (first | (with_reducible exact Below.refl _ _) | (with_reducible assumption) | (with_reducible refine Below.setCell ?_ ?_ _) | (with_reducible refine Below.alloc ?_ ?_ _) | (with_reducible refine Below.drew ?_) | (with_reducible refine below_drewN ?_ _) | (with_reducible refine Below.trans ?_ (Below.mono (by with_reducible assumption) ?_)) | go_size | (simp at *; omega)))
      rw [← hV]
      clear hV r1 r2 r3 r4 c1 c2 c3 c4 e1 e2 e3 e4 hbel gRr
      obtain ⟨z0, p1, p2, -⟩ := blk2 k0
      obtain ⟨zR', r1, r2, r3, r4⟩ := blk2 kR
      have hne : wr.heap.size ≠ w.heap.size := by omega
      go_region_held3 (fun w' => KeptO (w.heap.size) V w') (repeat (first | (with_reducible assumption) | (with_reducible exact kepto_refl _ _) | (with_reducible exact kepto_other (by with_reducible assumption) (by first | omega | (simp; done) | (simp; omega))) | (with_reducible refine kepto_alloc ?_) | (with_reducible refine kepto_drew ?_) | (with_reducible refine kepto_set_same ?_) | (with_reducible refine kepto_set ?_ (by first | omega | (simp; done) | (simp; omega))) | (with_reducible refine kepto_call ?_ hb1))) (first | (go_at_call 55; refine (OKC.out _).mono ?_; rintro e w1 ⟨rfl, hb1⟩; obtain ⟨hc1, hf1, hl1, hB1⟩ := bcell hb1; (try simp only [World.size_drew, cell_drew, frozen_drew, heapAt_drew] at hc1 hf1 hl1 hB1); have hz1 := hb1.size; (try simp at hz1); (try have hkA := hl1 _ hkA); (try have hkA : _ < w1.heap.size := hz1); (try have hkW : V.heap.size < w1.heap.size := by omega); (try have hk0 : w.heap.size < w1.heap.size := by omega); (try have hk1 : w.heap.size + 1 < w1.heap.size := by omega); (try have hk2 : w.heap.size + 1 + 1 < w1.heap.size := by omega)))
      all_goals
        go_wp2_with fail
        apply body_row12 (w.heap.size) 32 Tryd.results58 Tryd.underlying32 rfl rfl rfl; (case q => simp (disch := (first | omega | (simp; done) | (simp; omega))) [*]; try rfl); (case hi => kernel_rfl)
        exact ⟨X, Y, rfl, fun _ => ⟨rfl, rfl⟩, (by repeat' (first | (with_reducible exact Below.refl _ _) | (with_reducible assumption) | (with_reducible refine Below.setCell ?_ ?_ _) | (with_reducible refine Below.alloc ?_ ?_ _) | (with_reducible refine Below.drew ?_) | (with_reducible refine below_drewN ?_ _) | (with_reducible refine Below.trans ?_ (Below.mono (by with_reducible assumption) ?_)) | go_size | (simp at *; omega)))⟩
end Go.Proofs.YtdbbjmcfpfalhaaDoor
