/- The least solution of an equation: both packages. -/
import Derived.Test.YtdbbjmcfpfalhaaDoorLookS
import Derived.Test.YtdbbjmcfpfalhaaDoorEqE
namespace Go.Proofs.YtdbbjmcfpfalhaaDoor
open Go.ChangeShapes Go.WideShapes Go.ChangeAt Go.RowKit
set_option linter.unusedVariables false
set_option maxHeartbeats 8000000
set_option maxRecDepth 20000
/-- The first solution from y on, among so many. -/
def fiL (d n : Int) : Nat → Int → Int × Int × Int
  | 0, _ => (0, 0, 3)
  | k + 1, y => if sqB (zX d n y) = true then (rt (zX d n y), y, 0) else fiL d n k (y + 1)
theorem fiL_yes {d n y : Int} (k : Nat) (h : sqB (zX d n y) = true) : fiL d n (k + 1) y = (rt (zX d n y), y, 0) := by unfold fiL; rw [if_pos h]
theorem fiL_no {d n y : Int} (k : Nat) (h : sqB (zX d n y) = false) : fiL d n (k + 1) y = fiL d n k (y + 1) := by
  conv => lhs; unfold fiL
  rw [if_neg (by rw [h]; decide)]
theorem solP_yes {d n y : Int} (h : sqB (zX d n y) = true) : solP d n y = ⟨rt (zX d n y), y⟩ := by unfold solP; rw [if_pos h]
theorem iLS_any (d n : Int) (N : Nat) (w : World) (hd : 2 ≤ d ∧ d ≤ 1000) (hn : -1000 ≤ n ∧ n ≤ 1000) (hN : N ≤ 100000)
    (LK : ∀ w : World, Calls Tryd.prog 13 #[.int .i64 d, .int .i64 n] w fun e w' => e = .returned (.tuple #[.int .i64 N, .int .i64 0]) ∧ Below w.heap.size w w') :
    Calls Tryd.prog 11 #[.int .i64 d, .int .i64 n] w fun e w' => e = .returned (.tuple #[.agg #[.int .i64 (fiL d n (N + 1) 0).1, .int .i64 (fiL d n (N + 1) 0).2.1], .int .i64 (fiL d n (N + 1) 0).2.2]) ∧ Below w.heap.size w w' := by
  obtain ⟨R, hR⟩ : ∃ R, fiL d n (N + 1) 0 = R := ⟨_, rfl⟩
  rw [hR]
  obtain ⟨x1, x2, x3⟩ := R
  have HF := Lib.hid hR
  have LK' := Lib.hid LK
  clear hR LK
  go_enter Tryd.func11, Tryd.ntmps11
  go_wp2_with fail; refine (LK'.out _).mono ?_; rintro e w1 ⟨rfl, hb1⟩; obtain ⟨hc1, hf1, -, hB1⟩ := bcell hb1; have hz1 := hb1.size; (try simp at hz1); (try have hk1_0 : w.heap.size < w1.heap.size := by omega); (try have hk1_1 : w.heap.size + 1 < w1.heap.size := by omega); (try have hk1_2 : w.heap.size + 1 + 1 < w1.heap.size := by omega); (try have hk1_3 : w.heap.size + 1 + 1 + 1 < w1.heap.size := by omega); (try have hk1_4 : wr.heap.size < w1.heap.size := by omega); (try have hk1_5 : wr.heap.size + 1 < w1.heap.size := by omega)
  go_wp2_with fail
  have gR1 : heapAt w1 w.heap.size = some (.cells #[.int .i64 0, .int .i64 0] 32 (0, 0)) := (hB1 _ (by simp)).trans (heapAt_new w _)
  have hb1' : Below w.heap.size w w1 := (by repeat' (first | (with_reducible exact Below.refl _ _) | (with_reducible assumption) | (with_reducible refine Below.setCell ?_ ?_ _) | (with_reducible refine Below.alloc ?_ ?_ _) | (with_reducible refine Below.drew ?_) | (with_reducible refine below_drewN ?_ _) | (with_reducible refine Below.trans ?_ (Below.mono (by with_reducible assumption) ?_)) | go_size | (simp at *; omega)))
  clear hc1 hf1 hB1 hb1
  go_loopg [8] (N + 2) (fun k s wr => ∃ y : Nat, s = .int .i64 y ∧ y + k = N + 2 ∧ y ≤ N + 1 ∧ Hid (fiL d n (N + 1 - y) y = (x1, x2, x3)) ∧ Below w1.heap.size w1 wr)
  case atStart => exact ⟨0, rfl, by omega, by omega, HF, (by repeat' (first | (with_reducible exact Below.refl _ _) | (with_reducible assumption) | (with_reducible refine Below.setCell ?_ ?_ _) | (with_reducible refine Below.alloc ?_ ?_ _) | (with_reducible refine Below.drew ?_) | (with_reducible refine below_drewN ?_ _) | (with_reducible refine Below.trans ?_ (Below.mono (by with_reducible assumption) ?_)) | go_size | (simp at *; omega)))⟩
  case round =>
    obtain ⟨y, rfl, hyk, hyn, HY, hbel⟩ := hrel
    have hz1 : w.heap.size < w1.heap.size := blk_lt gR1
    have gRr : heapAt wr w.heap.size = some (.cells #[.int .i64 0, .int .i64 0] 32 (0, 0)) := (hbel.block _ (by omega)).trans gR1
    have hbw : Below w.heap.size w wr := hb1'.trans (hbel.mono (by omega))
    have hzr := hbel.size
    obtain ⟨zR, r1, r2, r3, r4⟩ := blk2 gRr
    by_cases hlt : y ≤ N
    · have i1 : (y : Int) ≤ (N : Int) := by omega
      obtain ⟨j, hj⟩ : ∃ j, N + 1 - y = j + 1 := ⟨N - y, by omega⟩
      rw [hj] at HY
      cases hs : sqB (zX d n y)
      · have SA := Lib.hid (by have h := solutionAt_any d n y · hd hn (by omega); rw [hs] at h; exact h)
        have HY2 : Hid (fiL d n (N + 1 - (y + 1)) ((y + 1 : Nat) : Int) = (x1, x2, x3)) := Lib.hid (by
          have e : N + 1 - (y + 1) = j := by omega
          rw [e, ← HY.out, fiL_no j hs]
          rfl)
        clear HY hs hj
        go_wp2_with fail; refine (SA.out _).mono ?_; rintro e w2 ⟨rfl, hb2⟩; obtain ⟨hc2, hf2, -, hB2⟩ := bcell hb2; have hz2 := hb2.size; (try simp at hz2); (try have hk2_0 : w.heap.size < w2.heap.size := by omega); (try have hk2_1 : w.heap.size + 1 < w2.heap.size := by omega); (try have hk2_2 : w.heap.size + 1 + 1 < w2.heap.size := by omega); (try have hk2_3 : w.heap.size + 1 + 1 + 1 < w2.heap.size := by omega); (try have hk2_4 : wr.heap.size < w2.heap.size := by omega); (try have hk2_5 : wr.heap.size + 1 < w2.heap.size := by omega); (try have hk2_6 : w1.heap.size < w2.heap.size := by omega); (try have hk2_7 : w1.heap.size + 1 < w2.heap.size := by omega)
        go_wp2_with fail
        have hz2 := hb2.size
        have hbel2 : Below w1.heap.size w1 w2 := hbel.trans (hb2.mono (by omega))
        go_roundg (gk - 1)
        case measure => omega
        case rel => exact ⟨y + 1, by go_num, by omega, by omega, HY2, (by repeat' (first | (with_reducible exact Below.refl _ _) | (with_reducible assumption) | (with_reducible refine Below.setCell ?_ ?_ _) | (with_reducible refine Below.alloc ?_ ?_ _) | (with_reducible refine Below.drew ?_) | (with_reducible refine below_drewN ?_ _) | (with_reducible refine Below.trans ?_ (Below.mono (by with_reducible assumption) ?_)) | go_size | (simp at *; omega)))⟩
      · have SA := Lib.hid (by have h := solutionAt_any d n y · hd hn (by omega); rw [hs, solP_yes hs] at h; exact h)
        have HY2 : Hid ((x1, x2, x3) = (rt (zX d n y), (y : Int), (0 : Int))) := Lib.hid (by rw [← HY.out]; exact fiL_yes j hs)
        generalize rt (zX d n y) = X at *
        clear HY hs hj
        go_wp2_with fail; refine (SA.out _).mono ?_; rintro e w2 ⟨rfl, hb2⟩; obtain ⟨hc2, hf2, -, hB2⟩ := bcell hb2; have hz2 := hb2.size; (try simp at hz2); (try have hk2_0 : w.heap.size < w2.heap.size := by omega); (try have hk2_1 : w.heap.size + 1 < w2.heap.size := by omega); (try have hk2_2 : w.heap.size + 1 + 1 < w2.heap.size := by omega); (try have hk2_3 : w.heap.size + 1 + 1 + 1 < w2.heap.size := by omega); (try have hk2_4 : wr.heap.size < w2.heap.size := by omega); (try have hk2_5 : wr.heap.size + 1 < w2.heap.size := by omega); (try have hk2_6 : w1.heap.size < w2.heap.size := by omega); (try have hk2_7 : w1.heap.size + 1 < w2.heap.size := by omega)
        go_wp2_with fail
        apply body_row2 (w.heap.size) 32 Tryd.results11 Tryd.underlying32 rfl rfl rfl; (case q => simp (disch := (first | omega | (simp; done) | (simp; omega))) [*]; try rfl); (case hi => kernel_rfl)
        exact ⟨by have h := HY2.out; simp at h; obtain ⟨rfl, rfl, rfl⟩ := h; rfl, (by repeat' (first | (with_reducible exact Below.refl _ _) | (with_reducible assumption) | (with_reducible refine Below.setCell ?_ ?_ _) | (with_reducible refine Below.alloc ?_ ?_ _) | (with_reducible refine Below.drew ?_) | (with_reducible refine below_drewN ?_ _) | (with_reducible refine Below.trans ?_ (Below.mono (by with_reducible assumption) ?_)) | go_size | (simp at *; omega)))⟩
    · have i1 : ¬ (y : Int) ≤ (N : Int) := by omega
      have e : N + 1 - y = 0 := by omega
      have HY2 : Hid ((x1, x2, x3) = (0, 0, 3)) := Lib.hid (by rw [← HY.out, e]; rfl)
      clear HY e
      go_wp2_with fail
      apply body_row2 (w.heap.size) 32 Tryd.results11 Tryd.underlying32 rfl rfl rfl; (case q => simp (disch := (first | omega | (simp; done) | (simp; omega))) [*]; try rfl); (case hi => kernel_rfl)
      exact ⟨by have h := HY2.out; simp at h; obtain ⟨rfl, rfl, rfl⟩ := h; rfl, (by repeat' (first | (with_reducible exact Below.refl _ _) | (with_reducible assumption) | (with_reducible refine Below.setCell ?_ ?_ _) | (with_reducible refine Below.alloc ?_ ?_ _) | (with_reducible refine Below.drew ?_) | (with_reducible refine below_drewN ?_ _) | (with_reducible refine Below.trans ?_ (Below.mono (by with_reducible assumption) ?_)) | go_size | (simp at *; omega)))⟩
theorem sLS_any (d n : Int) (N : Nat) (w : World) (hd : 2 ≤ d ∧ d ≤ 1000) (hn : -1000 ≤ n ∧ n ≤ 1000) (hN : N ≤ 100000)
    (LK : ∀ w : World, Calls Tryd.prog 35 #[.int .i64 d, .int .i64 n] w fun e w' => e = .returned (.tuple #[.int .i64 N, .int .i64 0]) ∧ Below w.heap.size w w') :
    Calls Tryd.prog 12 #[.int .i64 d, .int .i64 n] w fun e w' => e = .returned (.tuple #[.agg #[.int .i64 (fiL d n (N + 1) 0).1, .int .i64 (fiL d n (N + 1) 0).2.1], .int .i64 (fiL d n (N + 1) 0).2.2]) ∧ Below w.heap.size w w' := by
  obtain ⟨R, hR⟩ : ∃ R, fiL d n (N + 1) 0 = R := ⟨_, rfl⟩
  rw [hR]
  obtain ⟨x1, x2, x3⟩ := R
  have HF := Lib.hid hR
  have LK' := Lib.hid LK
  clear hR LK
  go_enter Tryd.func12, Tryd.ntmps12
  go_wp2_with fail; refine (LK'.out _).mono ?_; rintro e w1 ⟨rfl, hb1⟩; obtain ⟨hc1, hf1, -, hB1⟩ := bcell hb1; have hz1 := hb1.size; (try simp at hz1); (try have hk1_0 : w.heap.size < w1.heap.size := by omega); (try have hk1_1 : w.heap.size + 1 < w1.heap.size := by omega); (try have hk1_2 : w.heap.size + 1 + 1 < w1.heap.size := by omega); (try have hk1_3 : w.heap.size + 1 + 1 + 1 < w1.heap.size := by omega); (try have hk1_4 : wr.heap.size < w1.heap.size := by omega); (try have hk1_5 : wr.heap.size + 1 < w1.heap.size := by omega)
  go_wp2_with fail
  have gR1 : heapAt w1 w.heap.size = some (.cells #[.int .i64 0, .int .i64 0] 32 (0, 0)) := (hB1 _ (by simp)).trans (heapAt_new w _)
  have hb1' : Below w.heap.size w w1 := (by repeat' (first | (with_reducible exact Below.refl _ _) | (with_reducible assumption) | (with_reducible refine Below.setCell ?_ ?_ _) | (with_reducible refine Below.alloc ?_ ?_ _) | (with_reducible refine Below.drew ?_) | (with_reducible refine below_drewN ?_ _) | (with_reducible refine Below.trans ?_ (Below.mono (by with_reducible assumption) ?_)) | go_size | (simp at *; omega)))
  clear hc1 hf1 hB1 hb1
  go_loopg [8] (N + 2) (fun k s wr => ∃ y : Nat, s = .int .i64 y ∧ y + k = N + 2 ∧ y ≤ N + 1 ∧ Hid (fiL d n (N + 1 - y) y = (x1, x2, x3)) ∧ Below w1.heap.size w1 wr)
  case atStart => exact ⟨0, rfl, by omega, by omega, HF, (by repeat' (first | (with_reducible exact Below.refl _ _) | (with_reducible assumption) | (with_reducible refine Below.setCell ?_ ?_ _) | (with_reducible refine Below.alloc ?_ ?_ _) | (with_reducible refine Below.drew ?_) | (with_reducible refine below_drewN ?_ _) | (with_reducible refine Below.trans ?_ (Below.mono (by with_reducible assumption) ?_)) | go_size | (simp at *; omega)))⟩
  case round =>
    obtain ⟨y, rfl, hyk, hyn, HY, hbel⟩ := hrel
    have hz1 : w.heap.size < w1.heap.size := blk_lt gR1
    have gRr : heapAt wr w.heap.size = some (.cells #[.int .i64 0, .int .i64 0] 32 (0, 0)) := (hbel.block _ (by omega)).trans gR1
    have hbw : Below w.heap.size w wr := hb1'.trans (hbel.mono (by omega))
    have hzr := hbel.size
    obtain ⟨zR, r1, r2, r3, r4⟩ := blk2 gRr
    by_cases hlt : y ≤ N
    · have i1 : (y : Int) ≤ (N : Int) := by omega
      obtain ⟨j, hj⟩ : ∃ j, N + 1 - y = j + 1 := ⟨N - y, by omega⟩
      rw [hj] at HY
      cases hs : sqB (zX d n y)
      · have SA := Lib.hid (by have h := l10X_any d n y · hd hn (by omega); rw [hs] at h; exact h)
        have HY2 : Hid (fiL d n (N + 1 - (y + 1)) ((y + 1 : Nat) : Int) = (x1, x2, x3)) := Lib.hid (by
          have e : N + 1 - (y + 1) = j := by omega
          rw [e, ← HY.out, fiL_no j hs]
          rfl)
        clear HY hs hj
        go_wp2_with (go_at_call 34; refine (SA.out _).mono ?_; rintro e w1 ⟨rfl, rfl⟩)
        go_roundg (gk - 1)
        case measure => omega
        case rel => exact ⟨y + 1, by go_num, by omega, by omega, HY2, (by repeat' (first | (with_reducible exact Below.refl _ _) | (with_reducible assumption) | (with_reducible refine Below.setCell ?_ ?_ _) | (with_reducible refine Below.alloc ?_ ?_ _) | (with_reducible refine Below.drew ?_) | (with_reducible refine below_drewN ?_ _) | (with_reducible refine Below.trans ?_ (Below.mono (by with_reducible assumption) ?_)) | go_size | (simp at *; omega)))⟩
      · have SA := Lib.hid (by have h := l10X_any d n y · hd hn (by omega); rw [hs] at h; exact h)
        have HY2 : Hid ((x1, x2, x3) = (rt (zX d n y), (y : Int), (0 : Int))) := Lib.hid (by rw [← HY.out]; exact fiL_yes j hs)
        generalize rt (zX d n y) = X at *
        clear HY hs hj
        go_wp2_with (go_at_call 34; refine (SA.out _).mono ?_; rintro e w1 ⟨rfl, rfl⟩)
        apply body_row2 (w.heap.size) 32 Tryd.results12 Tryd.underlying32 rfl rfl rfl; (case q => simp (disch := (first | omega | (simp; done) | (simp; omega))) [*]; try rfl); (case hi => kernel_rfl)
        exact ⟨by have h := HY2.out; simp at h; obtain ⟨rfl, rfl, rfl⟩ := h; rfl, (by repeat' (first | (with_reducible exact Below.refl _ _) | (with_reducible assumption) | (with_reducible refine Below.setCell ?_ ?_ _) | (with_reducible refine Below.alloc ?_ ?_ _) | (with_reducible refine Below.drew ?_) | (with_reducible refine below_drewN ?_ _) | (with_reducible refine Below.trans ?_ (Below.mono (by with_reducible assumption) ?_)) | go_size | (simp at *; omega)))⟩
    · have i1 : ¬ (y : Int) ≤ (N : Int) := by omega
      have e : N + 1 - y = 0 := by omega
      have HY2 : Hid ((x1, x2, x3) = (0, 0, 3)) := Lib.hid (by rw [← HY.out, e]; rfl)
      clear HY e
      go_wp2_with fail
      apply body_row2 (w.heap.size) 32 Tryd.results12 Tryd.underlying32 rfl rfl rfl; (case q => simp (disch := (first | omega | (simp; done) | (simp; omega))) [*]; try rfl); (case hi => kernel_rfl)
      exact ⟨by have h := HY2.out; simp at h; obtain ⟨rfl, rfl, rfl⟩ := h; rfl, (by repeat' (first | (with_reducible exact Below.refl _ _) | (with_reducible assumption) | (with_reducible refine Below.setCell ?_ ?_ _) | (with_reducible refine Below.alloc ?_ ?_ _) | (with_reducible refine Below.drew ?_) | (with_reducible refine below_drewN ?_ _) | (with_reducible refine Below.trans ?_ (Below.mono (by with_reducible assumption) ?_)) | go_size | (simp at *; omega)))⟩
theorem rt_nn (n : Int) : 0 ≤ rt n := by unfold rt; omega
theorem lkR_zero {d n X : Int} {ok : Bool} (h : (lkR d n X ok).2 = 0) : 0 ≤ (lkR d n X ok).1 ∧ (lkR d n X ok).1 ≤ 100000 := by
  have h0 := rt_nn (mxV d n X)
  unfold lkR at h ⊢
  split at h
  · rename_i h1
    rw [if_pos h1]
    split at h
    · simp at h
    · rename_i h2
      rw [if_neg h2]
      exact ⟨h0, by show rt (mxV d n X) ≤ 100000; omega⟩
  · simp at h
theorem look_both2 (d n : Int) : ∃ M k : Int, (k = 0 → eqC d n = 0 ∧ 0 ≤ M ∧ M ≤ 100000) ∧ (∀ w : World, Calls Tryd.prog 13 #[.int .i64 d, .int .i64 n] w fun e w' => e = .returned (.tuple #[.int .i64 M, .int .i64 k]) ∧ Below w.heap.size w w') ∧
    (∀ w : World, Calls Tryd.prog 35 #[.int .i64 d, .int .i64 n] w fun e w' => e = .returned (.tuple #[.int .i64 M, .int .i64 k]) ∧ Below w.heap.size w w') := by
  by_cases hc : eqC d n = 0
  · obtain ⟨⟨hd, hn, hn0⟩, hs⟩ := eqC_zero hc
    obtain ⟨X, Y, ok, HL, LI, LS⟩ := least_both d hd.1 (by omega) hs
    exact ⟨(lkR d n X ok).1, (lkR d n X ok).2, fun h => ⟨hc, lkR_zero h⟩, fun w => iLook_any d n X Y ok w hc HL LI, fun w => l10Look_any d n X Y ok w hc HL LS⟩
  · exact ⟨0, eqC d n, fun h => absurd h hc, fun w => look_bad d n w hc, fun w => lookS_bad d n w hc⟩
theorem iLS_bad (d n M k : Int) (w : World) (hk : k ≠ 0)
    (LK : ∀ w : World, Calls Tryd.prog 13 #[.int .i64 d, .int .i64 n] w fun e w' => e = .returned (.tuple #[.int .i64 M, .int .i64 k]) ∧ Below w.heap.size w w') :
    Calls Tryd.prog 11 #[.int .i64 d, .int .i64 n] w fun e w' => e = .returned (.tuple #[.agg #[.int .i64 0, .int .i64 0], .int .i64 k]) ∧ Below w.heap.size w w' := by
  have LK' := Lib.hid LK
  have hkb : (k != 0) = true := by simp [hk]
  clear LK
  go_enter Tryd.func11, Tryd.ntmps11
  go_wp2_with fail; refine (LK'.out _).mono ?_; rintro e w1 ⟨rfl, hb1⟩; obtain ⟨hc1, hf1, -, hB1⟩ := bcell hb1; have hz1 := hb1.size; (try simp at hz1); (try have hk1_0 : w.heap.size < w1.heap.size := by omega); (try have hk1_1 : w.heap.size + 1 < w1.heap.size := by omega); (try have hk1_2 : w.heap.size + 1 + 1 < w1.heap.size := by omega); (try have hk1_3 : w.heap.size + 1 + 1 + 1 < w1.heap.size := by omega); (try have hk1_4 : wr.heap.size < w1.heap.size := by omega); (try have hk1_5 : wr.heap.size + 1 < w1.heap.size := by omega)
  go_wp2_with fail
  apply body_row2 (w.heap.size) 32 Tryd.results11 Tryd.underlying32 rfl rfl rfl; (case q => simp (disch := (first | omega | (simp; done) | (simp; omega))) [*]; try rfl); (case hi => kernel_rfl)
  exact ⟨rfl, (by repeat' (first | (with_reducible exact Below.refl _ _) | (with_reducible assumption) | (with_reducible refine Below.setCell ?_ ?_ _) | (with_reducible refine Below.alloc ?_ ?_ _) | (with_reducible refine Below.drew ?_) | (with_reducible refine below_drewN ?_ _) | (with_reducible refine Below.trans ?_ (Below.mono (by with_reducible assumption) ?_)) | go_size | (simp at *; omega)))⟩
theorem sLS_bad (d n M k : Int) (w : World) (hk : k ≠ 0)
    (LK : ∀ w : World, Calls Tryd.prog 35 #[.int .i64 d, .int .i64 n] w fun e w' => e = .returned (.tuple #[.int .i64 M, .int .i64 k]) ∧ Below w.heap.size w w') :
    Calls Tryd.prog 12 #[.int .i64 d, .int .i64 n] w fun e w' => e = .returned (.tuple #[.agg #[.int .i64 0, .int .i64 0], .int .i64 k]) ∧ Below w.heap.size w w' := by
  have LK' := Lib.hid LK
  have hkb : (k != 0) = true := by simp [hk]
  clear LK
  go_enter Tryd.func12, Tryd.ntmps12
  go_wp2_with fail; refine (LK'.out _).mono ?_; rintro e w1 ⟨rfl, hb1⟩; obtain ⟨hc1, hf1, -, hB1⟩ := bcell hb1; have hz1 := hb1.size; (try simp at hz1); (try have hk1_0 : w.heap.size < w1.heap.size := by omega); (try have hk1_1 : w.heap.size + 1 < w1.heap.size := by omega); (try have hk1_2 : w.heap.size + 1 + 1 < w1.heap.size := by omega); (try have hk1_3 : w.heap.size + 1 + 1 + 1 < w1.heap.size := by omega); (try have hk1_4 : wr.heap.size < w1.heap.size := by omega); (try have hk1_5 : wr.heap.size + 1 < w1.heap.size := by omega)
  go_wp2_with fail
  apply body_row2 (w.heap.size) 32 Tryd.results12 Tryd.underlying32 rfl rfl rfl; (case q => simp (disch := (first | omega | (simp; done) | (simp; omega))) [*]; try rfl); (case hi => kernel_rfl)
  exact ⟨rfl, (by repeat' (first | (with_reducible exact Below.refl _ _) | (with_reducible assumption) | (with_reducible refine Below.setCell ?_ ?_ _) | (with_reducible refine Below.alloc ?_ ?_ _) | (with_reducible refine Below.drew ?_) | (with_reducible refine below_drewN ?_ _) | (with_reducible refine Below.trans ?_ (Below.mono (by with_reducible assumption) ?_)) | go_size | (simp at *; omega)))⟩
theorem ls_both (d n : Int) : ∃ x y k : Int, (∀ w : World, Calls Tryd.prog 11 #[.int .i64 d, .int .i64 n] w fun e w' => e = .returned (.tuple #[.agg #[.int .i64 x, .int .i64 y], .int .i64 k]) ∧ Below w.heap.size w w') ∧
    (∀ w : World, Calls Tryd.prog 12 #[.int .i64 d, .int .i64 n] w fun e w' => e = .returned (.tuple #[.agg #[.int .i64 x, .int .i64 y], .int .i64 k]) ∧ Below w.heap.size w w') := by
  obtain ⟨M, k, hk, HI, HS⟩ := look_both2 d n
  by_cases hk0 : k = 0
  · obtain ⟨hc, m0, m1⟩ := hk hk0
    obtain ⟨⟨hd, hn, -⟩, -⟩ := eqC_zero hc
    obtain ⟨N, rfl⟩ := Int.eq_ofNat_of_zero_le m0
    subst hk0
    exact ⟨_, _, _, fun w => iLS_any d n N w hd hn (by omega) HI, fun w => sLS_any d n N w hd hn (by omega) HS⟩
  · exact ⟨_, _, _, fun w => iLS_bad d n M k w hk0 HI, fun w => sLS_bad d n M k w hk0 HS⟩
end Go.Proofs.YtdbbjmcfpfalhaaDoor
