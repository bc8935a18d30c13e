/- The unit of a root: the program's walk. -/
import Derived.Test.YtdbbjmcfpfalhaaDoorPellC
namespace Go.Proofs.YtdbbjmcfpfalhaaDoor
open Go.ChangeShapes Go.WideShapes Go.ChangeAt Go.RowKit
set_option linter.unusedVariables false
set_option maxHeartbeats 4000000
set_option maxRecDepth 20000
/-- The first term and the period, a list of the call's own. -/
def RetRP (D r n : Nat) (w : World) (e : Ending) (w' : World) : Prop :=
  ∃ v, e = .returned (.tuple #[.int .i64 (sA D r 0 : Nat), v, .bool true]) ∧ OwnI w' w.heap.size v (pL D r n) ∧ Below w.heap.size w w'
theorem rootPeriod_any (d : Int) (D r n : Nat) (H : PerI d D r n) (w : World) :
    Calls Tryd.prog 60 #[.int .i64 d] w (RetRP D r n w) := by
  have HP := Lib.hid (periodOf_any d D r n H ·)
  clear H
  go_enter Tryd.func60, Tryd.ntmps60
  go_wp2_with fail
  refine (HP.out _).mono ?_
  rintro e w1 ⟨v1, v2, rfl, o1, o2, hb1⟩
  rcases o1.shape with ⟨h0, -⟩ | ⟨-, b, c, rfl, hL1, hL2, -⟩
  · cases h0
  have p1 := OwnI.cells o1 0 (by simp)
  have e1 : ([(sA D r 0 : Int)])[0] = (sA D r 0 : Int) := rfl
  have O2 := Lib.hid o2
  have el : ([(sA D r 0 : Int)]).length = 1 := rfl
  rw [e1] at p1
  rw [el]
  clear e1 o2 o1 el hL1 hL2
  go_wp2
  exact bodyPost_ret (v := .tuple #[.int .i64 (sA D r 0 : Nat), v2, .bool true]) (by simp [results, Tryd.results60, go_sem]) rfl ⟨v2, rfl, O2.out, (by repeat' (first | (with_reducible exact Below.refl _ _) | (with_reducible assumption) | (with_reducible refine Below.setCell ?_ ?_ _) | (with_reducible refine Below.alloc ?_ ?_ _) | (with_reducible refine Below.drew ?_) | (with_reducible refine below_drewN ?_ _) | (with_reducible refine Below.trans ?_ (Below.mono (by with_reducible assumption) ?_)) | go_size | (simp at *; omega)))⟩
/-- The pair, its norm, and whether it is plain. -/
def unR (d x y : Int) : Int × Int × Int × Bool := if pOk d x y = true then (x, y, nrm d x y, true) else (0, 0, 0, false)
theorem unit_any (d : Int) (D r n : Nat) (H : PerI d D r n) (w : World) :
    Calls Tryd.prog 51 #[.int .i64 d] w fun e w' => e = .returned (.tuple #[.agg #[.int .i64 (unR d (cv D r n).x (cv D r n).y).1, .int .i64 (unR d (cv D r n).x (cv D r n).y).2.1], .int .i64 (unR d (cv D r n).x (cv D r n).y).2.2.1, .bool (unR d (cv D r n).x (cv D r n).y).2.2.2]) ∧ Below w.heap.size w w' := by
  have HP := Lib.hid (rootPeriod_any d D r n H ·)
  have HH := Lib.hid H
  have hd1 : 2 ≤ d ∧ d ≤ 10000 := by have := H.d1; have := H.d2; have := H.eD; omega
  have hn2 := H.per.n2
  obtain ⟨m, rfl⟩ : ∃ m, n = m + 1 := ⟨n - 1, by have := H.per.n1; omega⟩
  have c1 := cv_one D r
  have hr0 := sA_zero D r
  clear H
  go_enter Tryd.func51, Tryd.ntmps51
  go_wp2_with fail
  refine (HP.out _).mono ?_
  rintro e w1 ⟨v, rfl, o1, hb1⟩
  have hz1 := hb1.size
  simp at hz1
  rcases o1.shape with ⟨h0, -⟩ | ⟨-, b, c, rfl, hL1, hLb, hLc⟩
  · have := congrArg List.length h0
    rw [pL_len] at this
    simp at this
  rw [pL_len] at hLc ⊢
  have O1 := Lib.hid o1
  have gR1 : heapAt w1 w.heap.size = some (.cells #[.int .i64 0, .int .i64 0] 32 (0, 0)) := (hb1.block w.heap.size (by simp)).trans (heapAt_new w _)
  have hb1' : Below w.heap.size w w1 := (by repeat' (first | (with_reducible exact Below.refl _ _) | (with_reducible assumption) | (with_reducible refine Below.setCell ?_ ?_ _) | (with_reducible refine Below.alloc ?_ ?_ _) | (with_reducible refine Below.drew ?_) | (with_reducible refine below_drewN ?_ _) | (with_reducible refine Below.trans ?_ (Below.mono (by with_reducible assumption) ?_)) | go_size | (simp at *; omega)))
  clear o1 hL1
  go_wp2_with fail
  go_loopg [8, 9, 10, 11, 28] (m + 1) (fun k x y u v i wr => ∃ j : Nat, x = .int .i64 (cv D r (j + 1)).x ∧ y = .int .i64 (cv D r (j + 1)).y ∧ u = .int .i64 (cv D r (j + 1)).u ∧ v = .int .i64 (cv D r (j + 1)).v ∧ i = .int .i64 j ∧ j + k = m + 1 ∧ j ≤ m ∧ Hid (pOk d (cv D r (j + 1)).x (cv D r (j + 1)).y = true) ∧ w1.heap.size ≤ wr.heap.size ∧ Below w1.heap.size w1 wr)
  case atStart => exact ⟨0, by rw [c1], by rw [c1], by rw [c1], by rw [c1], rfl, by omega, by omega, Lib.hid (cv_first HH.out), by omega, (by repeat' (first | (with_reducible exact Below.refl _ _) | (with_reducible assumption) | (with_reducible refine Below.setCell ?_ ?_ _) | (with_reducible refine Below.alloc ?_ ?_ _) | (with_reducible refine Below.drew ?_) | (with_reducible refine below_drewN ?_ _) | (with_reducible refine Below.trans ?_ (Below.mono (by with_reducible assumption) ?_)) | go_size | (simp at *; omega)))⟩
  case round =>
    obtain ⟨j, rfl, rfl, rfl, rfl, rfl, hjk, hjm, HK, hzr, hbel⟩ := hrel
    have gRr : heapAt wr w.heap.size = some (.cells #[.int .i64 0, .int .i64 0] 32 (0, 0)) := (hbel.block w.heap.size (by omega)).trans gR1
    have hbw : Below w.heap.size w wr := hb1'.trans (hbel.mono (by omega))
    obtain ⟨zR, r1, r2, r3, r4⟩ := blk2 gRr
    obtain ⟨⟨x0, x1⟩, ⟨y0, y1⟩, ⟨u0, u1⟩, ⟨v0, v1⟩, ⟨tx0, tx1⟩, ⟨ty0, ty1⟩⟩ := cv_bounds HH.out (k := j) (by omega) HK.out
    by_cases hlt : j < m
    · have hidx : j < (pL D r (m + 1)).length := by rw [pL_len]; omega
      have o3 := O1.out.below hbel
      have p1 := OwnI.cells o3 j hidx
      rw [pL_at] at p1
      clear o3
      have i0 : (0 : Int) ≤ (j : Int) := by omega
      have i1 : (j : Int) < (m : Int) := by omega
      have e2 : cv D r (j + 1 + 1) = ⟨sA D r (j + 1) * (cv D r (j + 1)).x + (cv D r (j + 1)).u, sA D r (j + 1) * (cv D r (j + 1)).y + (cv D r (j + 1)).v, (cv D r (j + 1)).x, (cv D r (j + 1)).y⟩ := rfl
      have ex : sA D r (j + 1) * (cv D r (j + 1)).x + (cv D r (j + 1)).u = (cv D r (j + 1 + 1)).x := by rw [e2]
      have ey : sA D r (j + 1) * (cv D r (j + 1)).y + (cv D r (j + 1)).v = (cv D r (j + 1 + 1)).y := by rw [e2]
      have eu : (cv D r (j + 1)).x = (cv D r (j + 1 + 1)).u := by rw [e2]
      have ev : (cv D r (j + 1)).y = (cv D r (j + 1 + 1)).v := by rw [e2]
      have EU := Lib.hid eu
      have EV := Lib.hid ev
      clear e2 eu ev
      have PP := isPlainPair_any d (cv D r (j + 1 + 1)).x (cv D r (j + 1 + 1)).y
      cases hp : pOk d (cv D r (j + 1 + 1)).x (cv D r (j + 1 + 1)).y
      · have hno : pOk d (cv D r (m + 1)).x (cv D r (m + 1)).y = false := by
          cases hq : pOk d (cv D r (m + 1)).x (cv D r (m + 1)).y with
          | false => rfl
          | true => rw [cv_plain HH.out (by omega) (Nat.le_refl _) hq] at hp; cases hp
        have HF : Hid (unR d (cv D r (m + 1)).x (cv D r (m + 1)).y = (0, 0, 0, false)) := Lib.hid (by unfold unR; rw [hno]; rfl)
        rw [hp] at PP
        have HPP := Lib.hid PP
        clear PP hp hno
        go_wp2_with fail; refine (HPP.out _ hd1).mono ?_; rintro e w2 ⟨rfl, hb2⟩; obtain ⟨hc2, hf2, -, hB2⟩ := bcell hb2; have hz2 := hb2.size; (try simp at hz2); (try have hk2_0 : w.heap.size < w2.heap.size := by omega); (try have hk2_1 : w.heap.size + 1 < w2.heap.size := by omega); (try have hk2_2 : w.heap.size + 1 + 1 < w2.heap.size := by omega); (try have hk2_3 : w.heap.size + 1 + 1 + 1 < w2.heap.size := by omega); (try have hk2_4 : wr.heap.size < w2.heap.size := by omega); (try have hk2_5 : wr.heap.size + 1 < w2.heap.size := by omega); (try have hk2_6 : w1.heap.size < w2.heap.size := by omega); (try have hk2_7 : w1.heap.size + 1 < w2.heap.size := by omega)
        go_wp2_with fail
        apply body_row12 (w.heap.size) 32 Tryd.results51 Tryd.underlying32 rfl rfl rfl; (case q => simp (disch := (first | omega | (simp; done) | (simp; omega))) [*]; try rfl); (case hi => kernel_rfl)
        exact ⟨by rw [HF.out]; rfl, (by repeat' (first | (with_reducible exact Below.refl _ _) | (with_reducible assumption) | (with_reducible refine Below.setCell ?_ ?_ _) | (with_reducible refine Below.alloc ?_ ?_ _) | (with_reducible refine Below.drew ?_) | (with_reducible refine below_drewN ?_ _) | (with_reducible refine Below.trans ?_ (Below.mono (by with_reducible assumption) ?_)) | go_size | (simp at *; omega)))⟩
      · rw [hp] at PP
        have HPP := Lib.hid PP
        have HK2 := Lib.hid hp
        clear PP hp
        go_wp2_with fail; refine (HPP.out _ hd1).mono ?_; rintro e w2 ⟨rfl, hb2⟩; obtain ⟨hc2, hf2, -, hB2⟩ := bcell hb2; have hz2 := hb2.size; (try simp at hz2); (try have hk2_0 : w.heap.size < w2.heap.size := by omega); (try have hk2_1 : w.heap.size + 1 < w2.heap.size := by omega); (try have hk2_2 : w.heap.size + 1 + 1 < w2.heap.size := by omega); (try have hk2_3 : w.heap.size + 1 + 1 + 1 < w2.heap.size := by omega); (try have hk2_4 : wr.heap.size < w2.heap.size := by omega); (try have hk2_5 : wr.heap.size + 1 < w2.heap.size := by omega); (try have hk2_6 : w1.heap.size < w2.heap.size := by omega); (try have hk2_7 : w1.heap.size + 1 < w2.heap.size := by omega)
        go_wp2_with fail
        have hbel2 : Below w1.heap.size w1 w2 := hbel.trans (hb2.mono (by omega))
        go_roundg (gk - 1)
        case measure => omega
        case rel => exact ⟨j + 1, rfl, rfl, by rw [EU.out], by rw [EV.out], by go_num, by omega, by omega, HK2, by omega, hbel2⟩
    · have e : j = m := by omega
      subst e
      have HF : Hid (unR d (cv D r (j + 1)).x (cv D r (j + 1)).y = ((cv D r (j + 1)).x, (cv D r (j + 1)).y, nrm d (cv D r (j + 1)).x (cv D r (j + 1)).y, true)) := Lib.hid (by unfold unR; rw [HK.out]; rfl)
      have NM := Lib.hid (norm_any d (cv D r (j + 1)).x (cv D r (j + 1)).y · hd1 HK.out)
      have hbelR : heapAt wr w.heap.size = heapAt w1 w.heap.size := hbel.block w.heap.size (by omega)
      clear hbel gRr
      go_upto_region 11 with fail
      obtain ⟨V, hV⟩ : ∃ V, V = wr.alloc (.cells #[.int .i64 (cv D r (j + 1)).x, .int .i64 (cv D r (j + 1)).y] 32) := ⟨_, rfl⟩
      have k0 : heapAt V wr.heap.size = some (.cells #[.int .i64 (cv D r (j + 1)).x, .int .i64 (cv D r (j + 1)).y] 32 (0, 0)) := by rw [hV]; exact (by simp (disch := (first | omega | (simp; done) | (simp; omega))) [*])
      have kR : heapAt V w.heap.size = some (.cells #[.int .i64 0, .int .i64 0] 32 (0, 0)) := by rw [hV]; exact (heapAt_old zR).trans ((hbelR).trans gR1)
      have kb : Below w.heap.size w V := by rw [hV]; exact (by repeat' (first | (with_reducible exact Below.refl _ _) | (with_reducible assumption) | (with_reducible refine Below.setCell ?_ ?_ _) | (with_reducible refine Below.alloc ?_ ?_ _) | (with_reducible refine Below.drew ?_) | (with_reducible refine below_drewN ?_ _) | (with_reducible refine Below.trans ?_ (Below.mono (by with_reducible assumption) ?_)) | go_size | (simp at *; omega)))
      rw [← hV]
      clear hV r1 r2 r3 r4
      obtain ⟨z0, p1, p2, -⟩ := blk2 k0
      obtain ⟨zR', r1, r2, r3, r4⟩ := blk2 kR
      have hne : wr.heap.size ≠ w.heap.size := by omega
      go_region_held3 (fun w' => KeptO (w.heap.size) V w') (repeat (first | (with_reducible assumption) | (with_reducible exact kepto_refl _ _) | (with_reducible exact kepto_other (by with_reducible assumption) (by first | omega | (simp; done) | (simp; omega))) | (with_reducible refine kepto_alloc ?_) | (with_reducible refine kepto_drew ?_) | (with_reducible refine kepto_set_same ?_) | (with_reducible refine kepto_set ?_ (by first | omega | (simp; done) | (simp; omega))) | (with_reducible refine kepto_call ?_ hb1))) (first | (go_at_call 54; refine (NM.out _).mono ?_; rintro e w1 ⟨rfl, hb1⟩; obtain ⟨hc1, hf1, hl1, hB1⟩ := bcell hb1; (try simp only [World.size_drew, cell_drew, frozen_drew, heapAt_drew] at hc1 hf1 hl1 hB1); have hz1 := hb1.size; (try simp at hz1); (try have hkA := hl1 _ hkA); (try have hkA : _ < w1.heap.size := hz1); (try have hkW : V.heap.size < w1.heap.size := by omega); (try have hk0 : w.heap.size < w1.heap.size := by omega); (try have hk1 : w.heap.size + 1 < w1.heap.size := by omega); (try have hk2 : w.heap.size + 1 + 1 < w1.heap.size := by omega)))
      all_goals
        go_wp2_with fail
        apply body_row12 (w.heap.size) 32 Tryd.results51 Tryd.underlying32 rfl rfl rfl; (case q => simp (disch := (first | omega | (simp; done) | (simp; omega))) [*]; try rfl); (case hi => kernel_rfl)
        exact ⟨by rw [HF.out]; rfl, (by repeat' (first | (with_reducible exact Below.refl _ _) | (with_reducible assumption) | (with_reducible refine Below.setCell ?_ ?_ _) | (with_reducible refine Below.alloc ?_ ?_ _) | (with_reducible refine Below.drew ?_) | (with_reducible refine below_drewN ?_ _) | (with_reducible refine Below.trans ?_ (Below.mono (by with_reducible assumption) ?_)) | go_size | (simp at *; omega)))⟩
end Go.Proofs.YtdbbjmcfpfalhaaDoor
