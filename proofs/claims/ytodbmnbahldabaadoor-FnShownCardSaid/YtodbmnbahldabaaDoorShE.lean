/- What the draws of questions hand back. -/
import Derived.Test.YtodbmnbahldabaaDoorShD
import Derived.Deep.DeepCutAuto
import Derived.Deep.RegionWith
namespace Go.Proofs.YtodbmnbahldabaaDoor
open Go.ChangeShapes Go.WideShapes Go.ChangeAt Go.RowKit
set_option linter.unusedVariables false
set_option maxHeartbeats 8000000
set_option maxRecDepth 20000
theorem Src.drewAny {w : World} {g : Nat} {v : Value} {M : Int} (h : Src w g v M) : Src w.drew g v M := h
theorem in_is {n lo hi : Int} {b : Bool} (h : inR n lo hi = b) (w : World) : Calls Tryd.prog 42 #[.int .i64 n, .int .i64 lo, .int .i64 hi] w fun e w' => e = .returned (.bool b) ∧ w = w' := by
  rw [← h]
  exact in_any n lo hi w
/-- A form and a number; old memory stands. -/
def RetAsk (w : World) (e : Ending) (w' : World) : Prop := ∃ a b c n : Int, e = .returned (.tuple #[.agg #[.int .i64 a, .int .i64 b, .int .i64 c], .int .i64 n]) ∧ BentP a b c ∧ (-10001 ≤ n ∧ n ≤ 10001) ∧ Below w.heap.size w w'
/-- Two numbers; old memory stands. -/
def RetNN (w : World) (e : Ending) (w' : World) : Prop := ∃ d n : Int, e = .returned (.tuple #[.int .i64 d, .int .i64 n]) ∧ Below w.heap.size w w'

theorem l12Ask_any (ao : Option Addr) (n cap : Nat) (w : World) (hr : ByteRow w ao n w.heap.size) (hn : n ≤ 4096) : Calls Tryd.prog 27 #[.slice ao n cap] w (RetAsk w) := by
  have HR := Lib.hid hr
  clear hr
  obtain ⟨V, hV⟩ : ∃ V, V = w.alloc (.cells #[.int .i64 0, .int .i64 0, .int .i64 0] 25) := ⟨_, rfl⟩
  have bV : Below w.heap.size w V := by rw [hV]; exact (by repeat' (first | (with_reducible exact Below.refl _ _) | (with_reducible assumption) | (with_reducible refine Below.setCell ?_ ?_ _) | (with_reducible refine Below.alloc ?_ ?_ _) | (with_reducible refine Below.drew ?_) | (with_reducible refine below_drewN ?_ _) | (with_reducible refine Below.trans ?_ (Below.mono (by with_reducible assumption) ?_)) | go_size | (simp at *; omega)))
  have rV : heapAt V w.heap.size = some (.cells #[.int .i64 0, .int .i64 0, .int .i64 0] 25 (0, 0)) := by rw [hV]; exact heapAt_new _ _
  have zV : V.heap.size = w.heap.size + 1 := by rw [hV]; simp
  have HV := Lib.hid hV
  clear hV
  go_enter Tryd.func27, Tryd.ntmps27
  go_wp2_with fail
  rw [← HV.out]
  refine (from_any ao n cap _).mono ?_
  rintro e w1 ⟨rfl, hw1⟩
  have s1 := from_src ao n cap V
  have b1 : Below V.heap.size V (V.alloc (.cells #[.slice ao n cap, .int .i64 0, .int .u64 0] 72)) := (by repeat' (first | (with_reducible exact Below.refl _ _) | (with_reducible assumption) | (with_reducible refine Below.setCell ?_ ?_ _) | (with_reducible refine Below.alloc ?_ ?_ _) | (with_reducible refine Below.drew ?_) | (with_reducible refine below_drewN ?_ _) | (with_reducible refine Below.trans ?_ (Below.mono (by with_reducible assumption) ?_)) | go_size | (simp at *; omega)))
  rw [← hw1] at s1 b1
  clear hw1
  rw [zV] at s1 ⊢
  have hz1 := b1.size
  have hzz1 := s1.lt
  have S1 := Lib.hid s1
  have B1 := Lib.hid (bV.trans (b1.mono bV.size))
  have R1 := Lib.hid (blkK rV b1 (blk_lt rV))
  clear s1 b1 bV rV zV
  go_wp2_with fail
  refine (l12Form_any (w.heap.size + 1) ao n cap (0) w1 S1.out (by omega) ((HR.out.below B1.out (Nat.le_refl _)).mono (by omega)) hn).mono ?_
  rintro e w2 ⟨a, b, c, rfl, hp, s2, g2⟩
  have S2 := Lib.hid s2
  have B2 := Lib.hid (Below.ofGrown B1.out g2 (by omega))
  have R2 := Lib.hid (hpG R1.out g2 (by omega))
  clear s2 g2
  have hz2 := B2.out.size
  have hzz2 := S2.out.lt
  have szR2 := blk_lt R2.out
  have HP := Lib.hid hp
  clear hp
  go_wp2_with fail
  obtain ⟨w3, hU⟩ : ∃ U, U = w2.alloc (.cells #[.int .i64 a, .int .i64 b, .int .i64 c] 25) := ⟨_, rfl⟩
  have bU : Below w2.heap.size w2 w3 := by rw [hU]; exact (by repeat' (first | (with_reducible exact Below.refl _ _) | (with_reducible assumption) | (with_reducible refine Below.setCell ?_ ?_ _) | (with_reducible refine Below.alloc ?_ ?_ _) | (with_reducible refine Below.drew ?_) | (with_reducible refine below_drewN ?_ _) | (with_reducible refine Below.trans ?_ (Below.mono (by with_reducible assumption) ?_)) | go_size | (simp at *; omega)))
  have F3 : Hid (heapAt w3 (w2.heap.size) = some (.cells #[.int .i64 a, .int .i64 b, .int .i64 c] 25 (0, 0))) := Lib.hid (by rw [hU]; exact heapAt_new _ _)
  rw [← hU]
  clear hU
  have S3 := Lib.hid (S2.out.below bU hzz2)
  have B3 := Lib.hid (B2.out.trans (bU.mono hz2))
  have R3 := Lib.hid (blkK R2.out bU (blk_lt R2.out))
  have hz3 := B3.out.size
  have hzz3 := S3.out.lt
  have szF3 := blk_lt F3.out
  have szR3 := blk_lt R3.out
  clear bU
  go_wp2_with fail
  refine (one_any 10 (w.heap.size + 1) ao n cap (0 + 300) w3 S3.out (by omega) ((HR.out.below B3.out (Nat.le_refl _)).mono (by omega)) hn (by omega)).mono ?_
  rintro e w4 ⟨bb, rfl, s4, g4⟩
  have S4 := Lib.hid s4
  have B4 := Lib.hid (Below.ofGrown B3.out g4 (by omega))
  have R4 := Lib.hid (hpG R3.out g4 (by omega))
  have F4 : Hid (heapAt w4 (w2.heap.size) = some (.cells #[.int .i64 a, .int .i64 b, .int .i64 c] 25 (0, 0))) := Lib.hid (hpG F3.out g4 (by omega))
  clear s4 g4
  have hz4 := B4.out.size
  have hzz4 := S4.out.lt
  have szR4 := blk_lt R4.out
  have szF4 := blk_lt F4.out
  cases bb
  · skip
    go_wp2_with fail
    refine (pick_any 21 (w.heap.size + 1) ao n cap (0 + 300 + 2) w4 S4.out (by omega) ((HR.out.below B4.out (Nat.le_refl _)).mono (by omega)) hn (by omega)).mono ?_
    rintro e w5 ⟨x, rfl, xl, xu, s5, g5⟩
    have S5 := Lib.hid s5
    have B5 := Lib.hid (Below.ofGrown B4.out g5 (by omega))
    have R5 := Lib.hid (hpG R4.out g5 (by omega))
    have F5 : Hid (heapAt w5 (w2.heap.size) = some (.cells #[.int .i64 a, .int .i64 b, .int .i64 c] 25 (0, 0))) := Lib.hid (hpG F4.out g5 (by omega))
    clear s5 g5
    have hz5 := B5.out.size
    have hzz5 := S5.out.lt
    have szR5 := blk_lt R5.out
    have szF5 := blk_lt F5.out
    go_wp2_with fail
    refine (pick_any 21 (w.heap.size + 1) ao n cap (0 + 300 + 2 + 2) w5 S5.out (by omega) ((HR.out.below B5.out (Nat.le_refl _)).mono (by omega)) hn (by omega)).mono ?_
    rintro e w6 ⟨y, rfl, yl, yu, s6, g6⟩
    have S6 := Lib.hid s6
    have B6 := Lib.hid (Below.ofGrown B5.out g6 (by omega))
    have R6 := Lib.hid (hpG R5.out g6 (by omega))
    have F6 : Hid (heapAt w6 (w2.heap.size) = some (.cells #[.int .i64 a, .int .i64 b, .int .i64 c] 25 (0, 0))) := Lib.hid (hpG F5.out g6 (by omega))
    clear s6 g6
    have hz6 := B6.out.size
    have hzz6 := S6.out.lt
    have szR6 := blk_lt R6.out
    have szF6 := blk_lt F6.out
    have cF := F6.out
    obtain ⟨zF, p1, p2, p3, f1, f2, f3⟩ := blk3 cF
    go_upto_region 7 with fail
    go_cut [8] (fun s8 wx => (∃ nn : Int, s8 = .int .i64 nn) ∧ w6 = wx)
    case first =>
      go_wp2_with fail
      go_meet
      case rel => exact ⟨⟨_, rfl⟩, rfl⟩
    case rest =>
      obtain ⟨⟨nn, rfl⟩, rfl⟩ := hcut
      clear p1 p2 p3 f1 f2 f3 cF
      go_wp2_with fail
      refine (one_any 2 (w.heap.size + 1) ao n cap (0 + 300 + 2 + 2 + 2) w6 S6.out (by omega) ((HR.out.below B6.out (Nat.le_refl _)).mono (by omega)) hn (by omega)).mono ?_
      rintro e w7 ⟨b2, rfl, s7, g7⟩
      have S7 := Lib.hid s7
      have B7 := Lib.hid (Below.ofGrown B6.out g7 (by omega))
      have R7 := Lib.hid (hpG R6.out g7 (by omega))
      have F7 : Hid (heapAt w7 (w2.heap.size) = some (.cells #[.int .i64 a, .int .i64 b, .int .i64 c] 25 (0, 0))) := Lib.hid (hpG F6.out g7 (by omega))
      clear s7 g7
      have hz7 := B7.out.size
      have hzz7 := S7.out.lt
      have szR7 := blk_lt R7.out
      have szF7 := blk_lt F7.out
      cases hin : inR nn 1 5000
      · have HI := Lib.hid hin
        cases b2
        · skip
          obtain ⟨U, hU⟩ : ∃ U, U = w7 := ⟨_, rfl⟩
          have aU := F7.out
          have rU := R7.out
          obtain ⟨za, a1, a2, a3, a4, a5, a6⟩ := blk3 aU
          obtain ⟨zr, r1, r2, r3, r4, r5, r6⟩ := blk3 rU
          clear hU U
          have n1 : w2.heap.size ≠ w.heap.size := by omega
          have LP := Lib.hid (fun W s b => pick_any 300 (w.heap.size + 1) ao n cap (0 + 300 + 2 + 2 + 2 + 2) W s (by omega) ((HR.out.below b (Nat.le_refl _)).mono (by omega)) hn (by omega))
          go_wp2_with fail
          go_region_with (go_at_call 41; refine (LP.out _ S7.out.drewAny B7.out.drew).mono ?_; rintro e w8 ⟨u, rfl, ul, uu, s8, g8⟩; have ga := hpG (w := w7.drew) aU g8 (by omega); have gr := hpG (w := w7.drew) rU g8 (by omega); have B8 := Lib.hid (Below.ofGrown B7.out.drew g8 (by omega)); clear a1 a2 a3 a4 a5 a6 r1 r2 r3 r4 r5 r6; obtain ⟨za4, a1, a2, a3, a4, a5, a6⟩ := blk3 ga; obtain ⟨zr4, r1, r2, r3, r4, r5, r6⟩ := blk3 gr)
          all_goals
            go_wp2_with fail
            have bq := B8.out
            apply body_row2 (w.heap.size) 25 Tryd.results27 Tryd.underlying25 rfl rfl rfl; (case q => simp (disch := (first | omega | (simp; done) | (simp; omega))) [*]; try rfl); (case hi => kernel_rfl)
            exact ⟨_, _, _, _, rfl, HP.out, by first | omega | (rw [IntWalk.i64_in _ (by omega)]; omega), (by repeat' (first | (with_reducible exact Below.refl _ _) | (with_reducible assumption) | (with_reducible refine Below.setCell ?_ ?_ _) | (with_reducible refine Below.alloc ?_ ?_ _) | (with_reducible refine Below.drew ?_) | (with_reducible refine below_drewN ?_ _) | (with_reducible refine Below.trans ?_ (Below.mono (by with_reducible assumption) ?_)) | go_size | (simp at *; omega)))⟩
        · skip
          go_wp2_with (go_at_call 42; refine (in_is HI.out _).mono ?_; rintro e w1 ⟨rfl, rfl⟩)
          obtain ⟨U, hU⟩ : ∃ U, U = w7 := ⟨_, rfl⟩
          have aU := F7.out
          have rU := R7.out
          obtain ⟨za, a1, a2, a3, a4, a5, a6⟩ := blk3 aU
          obtain ⟨zr, r1, r2, r3, r4, r5, r6⟩ := blk3 rU
          clear hU U
          have n1 : w2.heap.size ≠ w.heap.size := by omega
          have LP := Lib.hid (fun W s b => pick_any 300 (w.heap.size + 1) ao n cap (0 + 300 + 2 + 2 + 2 + 2) W s (by omega) ((HR.out.below b (Nat.le_refl _)).mono (by omega)) hn (by omega))
          go_wp2_with fail
          go_region_with (go_at_call 41; refine (LP.out _ S7.out.drewAny B7.out.drew).mono ?_; rintro e w8 ⟨u, rfl, ul, uu, s8, g8⟩; have ga := hpG (w := w7.drew) aU g8 (by omega); have gr := hpG (w := w7.drew) rU g8 (by omega); have B8 := Lib.hid (Below.ofGrown B7.out.drew g8 (by omega)); clear a1 a2 a3 a4 a5 a6 r1 r2 r3 r4 r5 r6; obtain ⟨za4, a1, a2, a3, a4, a5, a6⟩ := blk3 ga; obtain ⟨zr4, r1, r2, r3, r4, r5, r6⟩ := blk3 gr)
          all_goals
            go_wp2_with fail
            have bq := B8.out
            apply body_row2 (w.heap.size) 25 Tryd.results27 Tryd.underlying25 rfl rfl rfl; (case q => simp (disch := (first | omega | (simp; done) | (simp; omega))) [*]; try rfl); (case hi => kernel_rfl)
            exact ⟨_, _, _, _, rfl, HP.out, by first | omega | (rw [IntWalk.i64_in _ (by omega)]; omega), (by repeat' (first | (with_reducible exact Below.refl _ _) | (with_reducible assumption) | (with_reducible refine Below.setCell ?_ ?_ _) | (with_reducible refine Below.alloc ?_ ?_ _) | (with_reducible refine Below.drew ?_) | (with_reducible refine below_drewN ?_ _) | (with_reducible refine Below.trans ?_ (Below.mono (by with_reducible assumption) ?_)) | go_size | (simp at *; omega)))⟩
      · have HI := Lib.hid hin
        have hnn := inR_iff.1 hin
        cases b2
        · skip
          obtain ⟨U, hU⟩ : ∃ U, U = w7 := ⟨_, rfl⟩
          have aU := F7.out
          have rU := R7.out
          obtain ⟨za, a1, a2, a3, a4, a5, a6⟩ := blk3 aU
          obtain ⟨zr, r1, r2, r3, r4, r5, r6⟩ := blk3 rU
          clear hU U
          have n1 : w2.heap.size ≠ w.heap.size := by omega
          have LP := Lib.hid (fun W s b => pick_any 300 (w.heap.size + 1) ao n cap (0 + 300 + 2 + 2 + 2 + 2) W s (by omega) ((HR.out.below b (Nat.le_refl _)).mono (by omega)) hn (by omega))
          go_wp2_with fail
          go_region_with (go_at_call 41; refine (LP.out _ S7.out.drewAny B7.out.drew).mono ?_; rintro e w8 ⟨u, rfl, ul, uu, s8, g8⟩; have ga := hpG (w := w7.drew) aU g8 (by omega); have gr := hpG (w := w7.drew) rU g8 (by omega); have B8 := Lib.hid (Below.ofGrown B7.out.drew g8 (by omega)); clear a1 a2 a3 a4 a5 a6 r1 r2 r3 r4 r5 r6; obtain ⟨za4, a1, a2, a3, a4, a5, a6⟩ := blk3 ga; obtain ⟨zr4, r1, r2, r3, r4, r5, r6⟩ := blk3 gr)
          all_goals
            go_wp2_with fail
            have bq := B8.out
            apply body_row2 (w.heap.size) 25 Tryd.results27 Tryd.underlying25 rfl rfl rfl; (case q => simp (disch := (first | omega | (simp; done) | (simp; omega))) [*]; try rfl); (case hi => kernel_rfl)
            exact ⟨_, _, _, _, rfl, HP.out, by first | omega | (rw [IntWalk.i64_in _ (by omega)]; omega), (by repeat' (first | (with_reducible exact Below.refl _ _) | (with_reducible assumption) | (with_reducible refine Below.setCell ?_ ?_ _) | (with_reducible refine Below.alloc ?_ ?_ _) | (with_reducible refine Below.drew ?_) | (with_reducible refine below_drewN ?_ _) | (with_reducible refine Below.trans ?_ (Below.mono (by with_reducible assumption) ?_)) | go_size | (simp at *; omega)))⟩
        · skip
          have cF := F7.out
          have cR := R7.out
          obtain ⟨zF, p1, p2, p3, f1, f2, f3⟩ := blk3 cF
          obtain ⟨zR, r1, r2, r3, r4, r5, r6⟩ := blk3 cR
          have hb := B7.out
          go_wp2_with (go_at_call 42; refine (in_is HI.out _).mono ?_; rintro e w1 ⟨rfl, rfl⟩)
          apply body_row2 (w.heap.size) 25 Tryd.results27 Tryd.underlying25 rfl rfl rfl; (case q => simp (disch := (first | omega | (simp; done) | (simp; omega))) [*]; try rfl); (case hi => kernel_rfl)
          exact ⟨_, _, _, _, rfl, HP.out, by omega, (by repeat' (first | (with_reducible exact Below.refl _ _) | (with_reducible assumption) | (with_reducible refine Below.setCell ?_ ?_ _) | (with_reducible refine Below.alloc ?_ ?_ _) | (with_reducible refine Below.drew ?_) | (with_reducible refine below_drewN ?_ _) | (with_reducible refine Below.trans ?_ (Below.mono (by with_reducible assumption) ?_)) | go_size | (simp at *; omega)))⟩
  · skip
    obtain ⟨U, hU⟩ : ∃ U, U = w4 := ⟨_, rfl⟩
    have aU := F4.out
    have rU := R4.out
    obtain ⟨za, a1, a2, a3, a4, a5, a6⟩ := blk3 aU
    obtain ⟨zr, r1, r2, r3, r4, r5, r6⟩ := blk3 rU
    clear hU U
    have n1 : w2.heap.size ≠ w.heap.size := by omega
    have LP := Lib.hid (fun W s b => amongL [-1, 0, 1, 10000, 10001] (-1) 10001 (by decide) 5 rfl (by omega) 2 (w.heap.size + 1) ao n cap (0 + 300 + 2) W s (by omega) ((HR.out.below b (Nat.le_refl _)).mono (by omega)) hn)
    go_wp2_with fail
    go_region_with (go_at_call 40; refine (LP.out _ S4.out.drewAny B4.out.drew).mono ?_; rintro e w5 ⟨u, rfl, ul, uu, s5, g5⟩; have ga := hpG (w := w4.drew) aU g5 (by omega); have gr := hpG (w := w4.drew) rU g5 (by omega); have B5 := Lib.hid (Below.ofGrown B4.out.drew g5 (by omega)); clear a1 a2 a3 a4 a5 a6 r1 r2 r3 r4 r5 r6; obtain ⟨za4, a1, a2, a3, a4, a5, a6⟩ := blk3 ga; obtain ⟨zr4, r1, r2, r3, r4, r5, r6⟩ := blk3 gr)
    all_goals
      go_wp2_with fail
      have bq := B5.out
      apply body_row2 (w.heap.size) 25 Tryd.results27 Tryd.underlying25 rfl rfl rfl; (case q => simp (disch := (first | omega | (simp; done) | (simp; omega))) [*]; try rfl); (case hi => kernel_rfl)
      exact ⟨_, _, _, _, rfl, HP.out, by first | omega | (rw [IntWalk.i64_in _ (by omega)]; omega), (by repeat' (first | (with_reducible exact Below.refl _ _) | (with_reducible assumption) | (with_reducible refine Below.setCell ?_ ?_ _) | (with_reducible refine Below.alloc ?_ ?_ _) | (with_reducible refine Below.drew ?_) | (with_reducible refine below_drewN ?_ _) | (with_reducible refine Below.trans ?_ (Below.mono (by with_reducible assumption) ?_)) | go_size | (simp at *; omega)))⟩
theorem drawRepresentBy_any (ao : Option Addr) (n cap : Nat) (w : World) (hr : ByteRow w ao n w.heap.size) (hn : n ≤ 4096) : Calls Tryd.prog 9 #[.slice ao n cap] w (RetAsk w) := by
  have HR := Lib.hid hr
  clear hr
  obtain ⟨V, hV⟩ : ∃ V, V = w.alloc (.cells #[.int .i64 0, .int .i64 0, .int .i64 0] 25) := ⟨_, rfl⟩
  have bV : Below w.heap.size w V := by rw [hV]; exact (by repeat' (first | (with_reducible exact Below.refl _ _) | (with_reducible assumption) | (with_reducible refine Below.setCell ?_ ?_ _) | (with_reducible refine Below.alloc ?_ ?_ _) | (with_reducible refine Below.drew ?_) | (with_reducible refine below_drewN ?_ _) | (with_reducible refine Below.trans ?_ (Below.mono (by with_reducible assumption) ?_)) | go_size | (simp at *; omega)))
  have rV : heapAt V w.heap.size = some (.cells #[.int .i64 0, .int .i64 0, .int .i64 0] 25 (0, 0)) := by rw [hV]; exact heapAt_new _ _
  have HV := Lib.hid hV
  have BV := Lib.hid bV
  have RV := Lib.hid rV
  clear hV bV rV
  go_enter Tryd.func9, Tryd.ntmps9
  go_wp2_with fail
  rw [← HV.out]
  refine (l12Ask_any ao n cap V ((HR.out.below BV.out (Nat.le_refl _)).mono BV.out.size) hn).mono ?_
  rintro e w1 ⟨a, b, c, m, rfl, hp, hm, b1⟩
  have HP := Lib.hid hp
  have r1 := blkK RV.out b1 (blk_lt RV.out)
  have B1 := BV.out.trans (b1.mono BV.out.size)
  clear b1 hp
  obtain ⟨zR, r1, r2, r3, r4, r5, r6⟩ := blk3 r1
  go_wp2_with fail
  apply body_row2 (w.heap.size) 25 Tryd.results9 Tryd.underlying25 rfl rfl rfl; (case q => simp (disch := (first | omega | (simp; done) | (simp; omega))) [*]; try rfl); (case hi => kernel_rfl)
  exact ⟨_, _, _, _, rfl, HP.out, hm, (by repeat' (first | (with_reducible exact Below.refl _ _) | (with_reducible assumption) | (with_reducible refine Below.setCell ?_ ?_ _) | (with_reducible refine Below.alloc ?_ ?_ _) | (with_reducible refine Below.drew ?_) | (with_reducible refine below_drewN ?_ _) | (with_reducible refine Below.trans ?_ (Below.mono (by with_reducible assumption) ?_)) | go_size | (simp at *; omega)))⟩
theorem drawShownBy_any (ao : Option Addr) (n cap : Nat) (w : World) (hr : ByteRow w ao n w.heap.size) (hn : n ≤ 4096) : Calls Tryd.prog 14 #[.slice ao n cap] w (RetAsk w) := by
  have HR := Lib.hid hr
  clear hr
  obtain ⟨V, hV⟩ : ∃ V, V = w.alloc (.cells #[.int .i64 0, .int .i64 0, .int .i64 0] 25) := ⟨_, rfl⟩
  have bV : Below w.heap.size w V := by rw [hV]; exact (by repeat' (first | (with_reducible exact Below.refl _ _) | (with_reducible assumption) | (with_reducible refine Below.setCell ?_ ?_ _) | (with_reducible refine Below.alloc ?_ ?_ _) | (with_reducible refine Below.drew ?_) | (with_reducible refine below_drewN ?_ _) | (with_reducible refine Below.trans ?_ (Below.mono (by with_reducible assumption) ?_)) | go_size | (simp at *; omega)))
  have rV : heapAt V w.heap.size = some (.cells #[.int .i64 0, .int .i64 0, .int .i64 0] 25 (0, 0)) := by rw [hV]; exact heapAt_new _ _
  have zV : V.heap.size = w.heap.size + 1 := by rw [hV]; simp
  have HV := Lib.hid hV
  clear hV
  go_enter Tryd.func14, Tryd.ntmps14
  go_wp2_with fail
  rw [← HV.out]
  refine (from_any ao n cap _).mono ?_
  rintro e w1 ⟨rfl, hw1⟩
  have s1 := from_src ao n cap V
  have b1 : Below V.heap.size V (V.alloc (.cells #[.slice ao n cap, .int .i64 0, .int .u64 0] 72)) := (by repeat' (first | (with_reducible exact Below.refl _ _) | (with_reducible assumption) | (with_reducible refine Below.setCell ?_ ?_ _) | (with_reducible refine Below.alloc ?_ ?_ _) | (with_reducible refine Below.drew ?_) | (with_reducible refine below_drewN ?_ _) | (with_reducible refine Below.trans ?_ (Below.mono (by with_reducible assumption) ?_)) | go_size | (simp at *; omega)))
  rw [← hw1] at s1 b1
  clear hw1
  rw [zV] at s1 ⊢
  have hz1 := b1.size
  have hzz1 := s1.lt
  have S1 := Lib.hid s1
  have B1 := Lib.hid (bV.trans (b1.mono bV.size))
  have R1 := Lib.hid (blkK rV b1 (blk_lt rV))
  clear s1 b1 bV rV zV
  go_wp2_with fail
  refine (l12Form_any (w.heap.size + 1) ao n cap (0) w1 S1.out (by omega) ((HR.out.below B1.out (Nat.le_refl _)).mono (by omega)) hn).mono ?_
  rintro e w2 ⟨a, b, c, rfl, hp, s2, g2⟩
  have S2 := Lib.hid s2
  have B2 := Lib.hid (Below.ofGrown B1.out g2 (by omega))
  have R2 := Lib.hid (hpG R1.out g2 (by omega))
  clear s2 g2
  have hz2 := B2.out.size
  have hzz2 := S2.out.lt
  have szR2 := blk_lt R2.out
  have HP := Lib.hid hp
  clear hp
  go_wp2_with fail
  obtain ⟨w3, hU⟩ : ∃ U, U = w2.alloc (.cells #[.int .i64 a, .int .i64 b, .int .i64 c] 25) := ⟨_, rfl⟩
  have bU : Below w2.heap.size w2 w3 := by rw [hU]; exact (by repeat' (first | (with_reducible exact Below.refl _ _) | (with_reducible assumption) | (with_reducible refine Below.setCell ?_ ?_ _) | (with_reducible refine Below.alloc ?_ ?_ _) | (with_reducible refine Below.drew ?_) | (with_reducible refine below_drewN ?_ _) | (with_reducible refine Below.trans ?_ (Below.mono (by with_reducible assumption) ?_)) | go_size | (simp at *; omega)))
  have F3 : Hid (heapAt w3 (w2.heap.size) = some (.cells #[.int .i64 a, .int .i64 b, .int .i64 c] 25 (0, 0))) := Lib.hid (by rw [hU]; exact heapAt_new _ _)
  rw [← hU]
  clear hU
  have S3 := Lib.hid (S2.out.below bU hzz2)
  have B3 := Lib.hid (B2.out.trans (bU.mono hz2))
  have R3 := Lib.hid (blkK R2.out bU (blk_lt R2.out))
  have hz3 := B3.out.size
  have hzz3 := S3.out.lt
  have szF3 := blk_lt F3.out
  have szR3 := blk_lt R3.out
  clear bU
  go_wp2_with fail
  refine (one_any 10 (w.heap.size + 1) ao n cap (0 + 300) w3 S3.out (by omega) ((HR.out.below B3.out (Nat.le_refl _)).mono (by omega)) hn (by omega)).mono ?_
  rintro e w4 ⟨bb, rfl, s4, g4⟩
  have S4 := Lib.hid s4
  have B4 := Lib.hid (Below.ofGrown B3.out g4 (by omega))
  have R4 := Lib.hid (hpG R3.out g4 (by omega))
  have F4 : Hid (heapAt w4 (w2.heap.size) = some (.cells #[.int .i64 a, .int .i64 b, .int .i64 c] 25 (0, 0))) := Lib.hid (hpG F3.out g4 (by omega))
  clear s4 g4
  have hz4 := B4.out.size
  have hzz4 := S4.out.lt
  have szR4 := blk_lt R4.out
  have szF4 := blk_lt F4.out
  cases bb
  · skip
    obtain ⟨U, hU⟩ : ∃ U, U = w4 := ⟨_, rfl⟩
    have aU := F4.out
    have rU := R4.out
    obtain ⟨za, a1, a2, a3, a4, a5, a6⟩ := blk3 aU
    obtain ⟨zr, r1, r2, r3, r4, r5, r6⟩ := blk3 rU
    clear hU U
    have n1 : w2.heap.size ≠ w.heap.size := by omega
    have LP := Lib.hid (fun W s b => pick_any 60 (w.heap.size + 1) ao n cap (0 + 300 + 2) W s (by omega) ((HR.out.below b (Nat.le_refl _)).mono (by omega)) hn (by omega))
    go_wp2_with fail
    go_region_with (go_at_call 41; refine (LP.out _ S4.out.drewAny B4.out.drew).mono ?_; rintro e w5 ⟨u, rfl, ul, uu, s5, g5⟩; have ga := hpG (w := w4.drew) aU g5 (by omega); have gr := hpG (w := w4.drew) rU g5 (by omega); have B5 := Lib.hid (Below.ofGrown B4.out.drew g5 (by omega)); clear a1 a2 a3 a4 a5 a6 r1 r2 r3 r4 r5 r6; obtain ⟨za4, a1, a2, a3, a4, a5, a6⟩ := blk3 ga; obtain ⟨zr4, r1, r2, r3, r4, r5, r6⟩ := blk3 gr)
    all_goals
      go_wp2_with fail
      have bq := B5.out
      apply body_row2 (w.heap.size) 25 Tryd.results14 Tryd.underlying25 rfl rfl rfl; (case q => simp (disch := (first | omega | (simp; done) | (simp; omega))) [*]; try rfl); (case hi => kernel_rfl)
      exact ⟨_, _, _, _, rfl, HP.out, by first | omega | (rw [IntWalk.i64_in _ (by omega)]; omega), (by repeat' (first | (with_reducible exact Below.refl _ _) | (with_reducible assumption) | (with_reducible refine Below.setCell ?_ ?_ _) | (with_reducible refine Below.alloc ?_ ?_ _) | (with_reducible refine Below.drew ?_) | (with_reducible refine below_drewN ?_ _) | (with_reducible refine Below.trans ?_ (Below.mono (by with_reducible assumption) ?_)) | go_size | (simp at *; omega)))⟩
  · skip
    obtain ⟨U, hU⟩ : ∃ U, U = w4 := ⟨_, rfl⟩
    have aU := F4.out
    have rU := R4.out
    obtain ⟨za, a1, a2, a3, a4, a5, a6⟩ := blk3 aU
    obtain ⟨zr, r1, r2, r3, r4, r5, r6⟩ := blk3 rU
    clear hU U
    have n1 : w2.heap.size ≠ w.heap.size := by omega
    have LP := Lib.hid (fun W s b => amongL [-1, 0, 300, 301] (-1) 301 (by decide) 4 rfl (by omega) 2 (w.heap.size + 1) ao n cap (0 + 300 + 2) W s (by omega) ((HR.out.below b (Nat.le_refl _)).mono (by omega)) hn)
    go_wp2_with fail
    go_region_with (go_at_call 40; refine (LP.out _ S4.out.drewAny B4.out.drew).mono ?_; rintro e w5 ⟨u, rfl, ul, uu, s5, g5⟩; have ga := hpG (w := w4.drew) aU g5 (by omega); have gr := hpG (w := w4.drew) rU g5 (by omega); have B5 := Lib.hid (Below.ofGrown B4.out.drew g5 (by omega)); clear a1 a2 a3 a4 a5 a6 r1 r2 r3 r4 r5 r6; obtain ⟨za4, a1, a2, a3, a4, a5, a6⟩ := blk3 ga; obtain ⟨zr4, r1, r2, r3, r4, r5, r6⟩ := blk3 gr)
    all_goals
      go_wp2_with fail
      have bq := B5.out
      apply body_row2 (w.heap.size) 25 Tryd.results14 Tryd.underlying25 rfl rfl rfl; (case q => simp (disch := (first | omega | (simp; done) | (simp; omega))) [*]; try rfl); (case hi => kernel_rfl)
      exact ⟨_, _, _, _, rfl, HP.out, by first | omega | (rw [IntWalk.i64_in _ (by omega)]; omega), (by repeat' (first | (with_reducible exact Below.refl _ _) | (with_reducible assumption) | (with_reducible refine Below.setCell ?_ ?_ _) | (with_reducible refine Below.alloc ?_ ?_ _) | (with_reducible refine Below.drew ?_) | (with_reducible refine below_drewN ?_ _) | (with_reducible refine Below.trans ?_ (Below.mono (by with_reducible assumption) ?_)) | go_size | (simp at *; omega)))⟩
theorem l11DrawDisc_any (g : Nat) (ao : Option Addr) (n cap : Nat) (M : Int) (w : World) (hs : Src w g (.slice ao n cap) M) (hM : M ≤ 700000) (hr : ByteRow w ao n g) (hn : n ≤ 4096) :
    Calls Tryd.prog 43 #[.pointer (some ⟨g, 0, none⟩)] w (RetN g (.slice ao n cap) (M + 20) (-3000) 3000 w) := by
  have hz := hs.lt
  have S0 := Lib.hid hs
  have HR := Lib.hid hr
  clear hs hr
  go_enter Tryd.func43, Tryd.ntmps43
  go_wp2_with fail
  refine (one_any 10 g ao n cap M _ S0.out (by omega) HR.out hn (by omega)).mono ?_
  rintro e w1 ⟨bb, rfl, s1, g1⟩
  have S1 := Lib.hid s1
  have G1 := Lib.hid g1
  clear s1 g1
  cases bb
  · go_wp2_with fail
    refine (pick_any 100 g ao n cap (M + 2) _ S1.out (by omega) (HR.out.grown G1.out hz) hn (by omega)).mono ?_
    rintro e w2 ⟨x, rfl, xl, xu, s2, g2⟩
    have S2 := Lib.hid s2
    have G2 := Lib.hid (gbTrans G1.out g2)
    clear s2 g2
    go_wp2_with fail
    refine (pick_any 2 g ao n cap (M + 2 + 2) _ S2.out (by omega) (HR.out.grown G2.out hz) hn (by omega)).mono ?_
    rintro e w3 ⟨y, rfl, yl, yu, s3, g3⟩
    have S3 := Lib.hid s3
    have G3 := Lib.hid (gbTrans G2.out g3)
    clear s3 g3
    go_wp2_with fail
    go_ret
    exact ⟨_, rfl, by omega, by omega, S3.out.mono (by omega), G3.out⟩
  · go_wp2_with fail
    refine (amongL [-2001, -2000, -3, -4, 0, 1, 4, 2, 3, 2000, 2001] (-2001) 2001 (by decide) 11 rfl (by omega) _ g ao n cap (M + 2) _ S1.out (by omega) (HR.out.grown G1.out hz) hn).mono ?_
    rintro e w2 ⟨x, rfl, xl, xu, s2, g2⟩
    have S2 := Lib.hid s2
    have G2 := Lib.hid (gbTrans G1.out g2)
    clear s2 g2
    go_wp2_with fail
    go_ret
    exact ⟨_, rfl, by omega, by omega, S2.out.mono (by omega), G2.out⟩
theorem drawFormsFor_any (ao : Option Addr) (n cap : Nat) (w : World) (hr : ByteRow w ao n w.heap.size) (hn : n ≤ 4096) : Calls Tryd.prog 17 #[.slice ao n cap] w (RetNN w) := by
  have HR := Lib.hid hr
  clear hr
  go_enter Tryd.func17, Tryd.ntmps17
  go_wp2_with fail
  refine (from_any ao n cap _).mono ?_
  rintro e w1 ⟨rfl, hw1⟩
  have s1 := from_src ao n cap w
  have b1 : Below w.heap.size w (w.alloc (.cells #[.slice ao n cap, .int .i64 0, .int .u64 0] 72)) := (by repeat' (first | (with_reducible exact Below.refl _ _) | (with_reducible assumption) | (with_reducible refine Below.setCell ?_ ?_ _) | (with_reducible refine Below.alloc ?_ ?_ _) | (with_reducible refine Below.drew ?_) | (with_reducible refine below_drewN ?_ _) | (with_reducible refine Below.trans ?_ (Below.mono (by with_reducible assumption) ?_)) | go_size | (simp at *; omega)))
  rw [← hw1] at s1 b1
  clear hw1
  have hzz1 := s1.lt
  have S1 := Lib.hid s1
  have B1 := Lib.hid b1
  clear s1 b1
  go_wp2_with fail
  refine (l11DrawDisc_any (w.heap.size) ao n cap (0) w1 S1.out (by omega) ((HR.out.below B1.out (Nat.le_refl _)).mono (by omega)) hn).mono ?_
  rintro e w2 ⟨d, rfl, dl, du, s2, g2⟩
  have S2 := Lib.hid s2
  have B2 := Lib.hid (Below.ofGrown B1.out g2 (by omega))
  clear s2 g2
  have hz2 := B2.out.size
  have hzz2 := S2.out.lt
  by_cases h0 : d > 0
  · by_cases h2 : d < 200
    · skip
      go_wp2_with fail
      refine (one_any 5 (w.heap.size) ao n cap (0 + 20) w2 S2.out (by omega) ((HR.out.below B2.out (Nat.le_refl _)).mono (by omega)) hn (by omega)).mono ?_
      rintro e w3 ⟨b5, rfl, s3, g3⟩
      have S3 := Lib.hid s3
      have B3 := Lib.hid (Below.ofGrown B2.out g3 (by omega))
      clear s3 g3
      have hz3 := B3.out.size
      have hzz3 := S3.out.lt
      cases b5
      · skip
        go_wp2_with fail
        refine (one_any 10 (w.heap.size) ao n cap (0 + 20 + 2) w3 S3.out (by omega) ((HR.out.below B3.out (Nat.le_refl _)).mono (by omega)) hn (by omega)).mono ?_
        rintro e w4 ⟨bb, rfl, s4, g4⟩
        have S4 := Lib.hid s4
        have B4 := Lib.hid (Below.ofGrown B3.out g4 (by omega))
        clear s4 g4
        have hz4 := B4.out.size
        have hzz4 := S4.out.lt
        cases bb
        · skip
          go_wp2_with fail
          refine (pick_any 100 (w.heap.size) ao n cap (0 + 20 + 2 + 2) w4 S4.out (by omega) ((HR.out.below B4.out (Nat.le_refl _)).mono (by omega)) hn (by omega)).mono ?_
          rintro e w5 ⟨x, rfl, xl, xu, s5, g5⟩
          have S5 := Lib.hid s5
          have B5 := Lib.hid (Below.ofGrown B4.out g5 (by omega))
          clear s5 g5
          have hz5 := B5.out.size
          have hzz5 := S5.out.lt
          go_wp2_with fail
          go_returns
          exact ⟨_, _, rfl, B5.out⟩
        · skip
          go_wp2_with fail
          refine (amongL [-1, 0, 10000, 10001] (-1) 10001 (by decide) 4 rfl (by omega) _ (w.heap.size) ao n cap (0 + 20 + 2 + 2) w4 S4.out (by omega) ((HR.out.below B4.out (Nat.le_refl _)).mono (by omega)) hn).mono ?_
          rintro e w5 ⟨x, rfl, xl, xu, s5, g5⟩
          have S5 := Lib.hid s5
          have B5 := Lib.hid (Below.ofGrown B4.out g5 (by omega))
          clear s5 g5
          have hz5 := B5.out.size
          have hzz5 := S5.out.lt
          go_wp2_with fail
          go_returns
          exact ⟨_, _, rfl, B5.out⟩
      · skip
        go_wp2_with fail
        refine (one_any 10 (w.heap.size) ao n cap (0 + 20 + 2) w3 S3.out (by omega) ((HR.out.below B3.out (Nat.le_refl _)).mono (by omega)) hn (by omega)).mono ?_
        rintro e w4 ⟨bb, rfl, s4, g4⟩
        have S4 := Lib.hid s4
        have B4 := Lib.hid (Below.ofGrown B3.out g4 (by omega))
        clear s4 g4
        have hz4 := B4.out.size
        have hzz4 := S4.out.lt
        cases bb
        · skip
          go_wp2_with fail
          refine (pick_any 100 (w.heap.size) ao n cap (0 + 20 + 2 + 2) w4 S4.out (by omega) ((HR.out.below B4.out (Nat.le_refl _)).mono (by omega)) hn (by omega)).mono ?_
          rintro e w5 ⟨x, rfl, xl, xu, s5, g5⟩
          have S5 := Lib.hid s5
          have B5 := Lib.hid (Below.ofGrown B4.out g5 (by omega))
          clear s5 g5
          have hz5 := B5.out.size
          have hzz5 := S5.out.lt
          go_wp2_with fail
          go_returns
          exact ⟨_, _, rfl, B5.out⟩
        · skip
          go_wp2_with fail
          refine (amongL [-1, 0, 10000, 10001] (-1) 10001 (by decide) 4 rfl (by omega) _ (w.heap.size) ao n cap (0 + 20 + 2 + 2) w4 S4.out (by omega) ((HR.out.below B4.out (Nat.le_refl _)).mono (by omega)) hn).mono ?_
          rintro e w5 ⟨x, rfl, xl, xu, s5, g5⟩
          have S5 := Lib.hid s5
          have B5 := Lib.hid (Below.ofGrown B4.out g5 (by omega))
          clear s5 g5
          have hz5 := B5.out.size
          have hzz5 := S5.out.lt
          go_wp2_with fail
          go_returns
          exact ⟨_, _, rfl, B5.out⟩
    · have h2b : decide (d < 200) = false := decide_eq_false h2
      go_wp2_with fail
      refine (one_any 10 (w.heap.size) ao n cap (0 + 20) w2 S2.out (by omega) ((HR.out.below B2.out (Nat.le_refl _)).mono (by omega)) hn (by omega)).mono ?_
      rintro e w3 ⟨bb, rfl, s3, g3⟩
      have S3 := Lib.hid s3
      have B3 := Lib.hid (Below.ofGrown B2.out g3 (by omega))
      clear s3 g3
      have hz3 := B3.out.size
      have hzz3 := S3.out.lt
      cases bb
      · skip
        go_wp2_with fail
        refine (pick_any 100 (w.heap.size) ao n cap (0 + 20 + 2) w3 S3.out (by omega) ((HR.out.below B3.out (Nat.le_refl _)).mono (by omega)) hn (by omega)).mono ?_
        rintro e w4 ⟨x, rfl, xl, xu, s4, g4⟩
        have S4 := Lib.hid s4
        have B4 := Lib.hid (Below.ofGrown B3.out g4 (by omega))
        clear s4 g4
        have hz4 := B4.out.size
        have hzz4 := S4.out.lt
        go_wp2_with fail
        go_returns
        exact ⟨_, _, rfl, B4.out⟩
      · skip
        go_wp2_with fail
        refine (amongL [-1, 0, 10000, 10001] (-1) 10001 (by decide) 4 rfl (by omega) _ (w.heap.size) ao n cap (0 + 20 + 2) w3 S3.out (by omega) ((HR.out.below B3.out (Nat.le_refl _)).mono (by omega)) hn).mono ?_
        rintro e w4 ⟨x, rfl, xl, xu, s4, g4⟩
        have S4 := Lib.hid s4
        have B4 := Lib.hid (Below.ofGrown B3.out g4 (by omega))
        clear s4 g4
        have hz4 := B4.out.size
        have hzz4 := S4.out.lt
        go_wp2_with fail
        go_returns
        exact ⟨_, _, rfl, B4.out⟩
  · have h0b : decide (d > 0) = false := decide_eq_false h0
    go_wp2_with fail
    refine (one_any 10 (w.heap.size) ao n cap (0 + 20) w2 S2.out (by omega) ((HR.out.below B2.out (Nat.le_refl _)).mono (by omega)) hn (by omega)).mono ?_
    rintro e w3 ⟨bb, rfl, s3, g3⟩
    have S3 := Lib.hid s3
    have B3 := Lib.hid (Below.ofGrown B2.out g3 (by omega))
    clear s3 g3
    have hz3 := B3.out.size
    have hzz3 := S3.out.lt
    cases bb
    · skip
      go_wp2_with fail
      refine (pick_any 100 (w.heap.size) ao n cap (0 + 20 + 2) w3 S3.out (by omega) ((HR.out.below B3.out (Nat.le_refl _)).mono (by omega)) hn (by omega)).mono ?_
      rintro e w4 ⟨x, rfl, xl, xu, s4, g4⟩
      have S4 := Lib.hid s4
      have B4 := Lib.hid (Below.ofGrown B3.out g4 (by omega))
      clear s4 g4
      have hz4 := B4.out.size
      have hzz4 := S4.out.lt
      go_wp2_with fail
      go_returns
      exact ⟨_, _, rfl, B4.out⟩
    · skip
      go_wp2_with fail
      refine (amongL [-1, 0, 10000, 10001] (-1) 10001 (by decide) 4 rfl (by omega) _ (w.heap.size) ao n cap (0 + 20 + 2) w3 S3.out (by omega) ((HR.out.below B3.out (Nat.le_refl _)).mono (by omega)) hn).mono ?_
      rintro e w4 ⟨x, rfl, xl, xu, s4, g4⟩
      have S4 := Lib.hid s4
      have B4 := Lib.hid (Below.ofGrown B3.out g4 (by omega))
      clear s4 g4
      have hz4 := B4.out.size
      have hzz4 := S4.out.lt
      go_wp2_with fail
      go_returns
      exact ⟨_, _, rfl, B4.out⟩
end Go.Proofs.YtodbmnbahldabaaDoor
