/- Values of bihomographic functions: the reference's walk. -/
import Derived.Test.YtfnjboaocalidaaDoubleE
namespace Go.Proofs.Ytfnjboaocalidaa
open Go.ChangeShapes Go.WideShapes Go.ChangeAt Go.RowKit
set_option linter.unusedVariables false
set_option maxHeartbeats 20000000
set_option maxRecDepth 20000
theorem l14Small_any (n : Int) (w : World) : Calls Try.prog 61 #[.int .i64 n] w fun e w' => e = .returned (.bool (inR n (-10000) 10000)) ∧ w = w' := by
  go_enter Try.func61, Try.ntmps61
  go_wp2_with (go_at_call 78; refine (in_any _ _ _ _).mono ?_; rintro e w1 ⟨rfl, rfl⟩)
  go_ret
  exact ⟨rfl, rfl⟩
theorem sDoubleAt_any (a b c d e f i h xn xd yn yd : Int) (w : World) (bx1 : -9223372036854775808 ≤ xn ∧ xn ≤ 9223372036854775807) (bx2 : -9223372036854775808 ≤ xd ∧ xd ≤ 9223372036854775807) (by1 : -9223372036854775808 ≤ yn ∧ yn ≤ 9223372036854775807) (by2 : -9223372036854775808 ≤ yd ∧ yd ≤ 9223372036854775807) :
    Calls Try.prog 30 #[.agg #[.int .i64 a, .int .i64 b, .int .i64 c, .int .i64 d, .int .i64 e, .int .i64 f, .int .i64 i, .int .i64 h], .agg #[.int .i64 xn, .int .i64 xd], .agg #[.int .i64 yn, .int .i64 yd]] w fun e' w' => e' = .returned (.tuple #[.agg #[.int .i64 (datF a b c d e f i h xn xd yn yd).1.n, .int .i64 (datF a b c d e f i h xn xd yn yd).1.d], .int .i64 (datF a b c d e f i h xn xd yn yd).2]) ∧ Below w.heap.size w w' := by
  cases hv : vD a b c d e f i h
  · have HF : Hid (datF a b c d e f i h xn xd yn yd = (zQ, 1)) := Lib.hid (datF_bad (by simp [hv]))
    go_enter Try.func30, Try.ntmps30
    go_wp2_with fail; refine (l14Ok_any _ _ _ _ _ _ _ _ _).mono ?_; rintro e w1 ⟨rfl, hb1⟩; obtain ⟨hc1, hf1, -, hB1⟩ := bcell hb1; have hz1 := hb1.size; (try simp at hz1); (try have hk1_0 : w.heap.size < w1.heap.size := by omega); (try have hk1_1 : w.heap.size + 1 < w1.heap.size := by omega); (try have hk1_2 : w.heap.size + 1 + 1 < w1.heap.size := by omega); (try have hk1_3 : w.heap.size + 1 + 1 + 1 < w1.heap.size := by omega); (try have hk1_4 : wr.heap.size < w1.heap.size := by omega); (try have hk1_5 : wr.heap.size + 1 < w1.heap.size := by omega)
    go_wp2_with fail
    apply body_row2 (w.heap.size + 1 + 1 + 1) 39 Try.results30 Try.underlying39 rfl rfl rfl; (case q => simp (disch := (first | omega | (simp; done) | (simp; omega))) [*]; try rfl); (case hi => kernel_rfl)
    exact ⟨by rw [HF.out]; simp [zQ], (by repeat' (first | (with_reducible exact Below.refl _ _) | (with_reducible assumption) | (with_reducible refine Below.setCell ?_ ?_ _) | (with_reducible refine Below.alloc ?_ ?_ _) | (with_reducible refine Below.drew ?_) | (with_reducible refine below_drewN ?_ _) | (with_reducible refine Below.trans ?_ (Below.mono (by with_reducible assumption) ?_)) | go_size | (simp at *; omega)))⟩
  · cases hx : vQ xn xd
    · have HF : Hid (datF a b c d e f i h xn xd yn yd = (zQ, 1)) := Lib.hid (datF_bad (by simp [hx]))
      go_enter Try.func30, Try.ntmps30
      go_wp2_with fail; refine (l14Ok_any _ _ _ _ _ _ _ _ _).mono ?_; rintro e w1 ⟨rfl, hb1⟩; obtain ⟨hc1, hf1, -, hB1⟩ := bcell hb1; have hz1 := hb1.size; (try simp at hz1); (try have hk1_0 : w.heap.size < w1.heap.size := by omega); (try have hk1_1 : w.heap.size + 1 < w1.heap.size := by omega); (try have hk1_2 : w.heap.size + 1 + 1 < w1.heap.size := by omega); (try have hk1_3 : w.heap.size + 1 + 1 + 1 < w1.heap.size := by omega); (try have hk1_4 : wr.heap.size < w1.heap.size := by omega); (try have hk1_5 : wr.heap.size + 1 < w1.heap.size := by omega)
      go_wp2_with fail; refine (l02Ok_any _ _ _ (by omega) (by omega)).mono ?_; rintro e w2 ⟨rfl, hb2⟩; obtain ⟨hc2, hf2, -, hB2⟩ := bcell hb2; have hz2 := hb2.size; (try simp at hz2); (try have hk2_0 : w.heap.size < w2.heap.size := by omega); (try have hk2_1 : w.heap.size + 1 < w2.heap.size := by omega); (try have hk2_2 : w.heap.size + 1 + 1 < w2.heap.size := by omega); (try have hk2_3 : w.heap.size + 1 + 1 + 1 < w2.heap.size := by omega); (try have hk2_4 : wr.heap.size < w2.heap.size := by omega); (try have hk2_5 : wr.heap.size + 1 < w2.heap.size := by omega); (try have hk2_6 : w1.heap.size < w2.heap.size := by omega); (try have hk2_7 : w1.heap.size + 1 < w2.heap.size := by omega)
      go_wp2_with fail
      apply body_row2 (w.heap.size + 1 + 1 + 1) 39 Try.results30 Try.underlying39 rfl rfl rfl; (case q => simp (disch := (first | omega | (simp; done) | (simp; omega))) [*]; try rfl); (case hi => kernel_rfl)
      exact ⟨by rw [HF.out]; simp [zQ], (by repeat' (first | (with_reducible exact Below.refl _ _) | (with_reducible assumption) | (with_reducible refine Below.setCell ?_ ?_ _) | (with_reducible refine Below.alloc ?_ ?_ _) | (with_reducible refine Below.drew ?_) | (with_reducible refine below_drewN ?_ _) | (with_reducible refine Below.trans ?_ (Below.mono (by with_reducible assumption) ?_)) | go_size | (simp at *; omega)))⟩
    · cases hy : vQ yn yd
      · have HF : Hid (datF a b c d e f i h xn xd yn yd = (zQ, 1)) := Lib.hid (datF_bad (by simp [hy]))
        go_enter Try.func30, Try.ntmps30
        go_wp2_with fail; refine (l14Ok_any _ _ _ _ _ _ _ _ _).mono ?_; rintro e w1 ⟨rfl, hb1⟩; obtain ⟨hc1, hf1, -, hB1⟩ := bcell hb1; have hz1 := hb1.size; (try simp at hz1); (try have hk1_0 : w.heap.size < w1.heap.size := by omega); (try have hk1_1 : w.heap.size + 1 < w1.heap.size := by omega); (try have hk1_2 : w.heap.size + 1 + 1 < w1.heap.size := by omega); (try have hk1_3 : w.heap.size + 1 + 1 + 1 < w1.heap.size := by omega); (try have hk1_4 : wr.heap.size < w1.heap.size := by omega); (try have hk1_5 : wr.heap.size + 1 < w1.heap.size := by omega)
        go_wp2_with fail; refine (l02Ok_any _ _ _ (by omega) (by omega)).mono ?_; rintro e w2 ⟨rfl, hb2⟩; obtain ⟨hc2, hf2, -, hB2⟩ := bcell hb2; have hz2 := hb2.size; (try simp at hz2); (try have hk2_0 : w.heap.size < w2.heap.size := by omega); (try have hk2_1 : w.heap.size + 1 < w2.heap.size := by omega); (try have hk2_2 : w.heap.size + 1 + 1 < w2.heap.size := by omega); (try have hk2_3 : w.heap.size + 1 + 1 + 1 < w2.heap.size := by omega); (try have hk2_4 : wr.heap.size < w2.heap.size := by omega); (try have hk2_5 : wr.heap.size + 1 < w2.heap.size := by omega); (try have hk2_6 : w1.heap.size < w2.heap.size := by omega); (try have hk2_7 : w1.heap.size + 1 < w2.heap.size := by omega)
        go_wp2_with fail; refine (l02Ok_any _ _ _ (by omega) (by omega)).mono ?_; rintro e w3 ⟨rfl, hb3⟩; obtain ⟨hc3, hf3, -, hB3⟩ := bcell hb3; have hz3 := hb3.size; (try simp at hz3); (try have hk3_0 : w.heap.size < w3.heap.size := by omega); (try have hk3_1 : w.heap.size + 1 < w3.heap.size := by omega); (try have hk3_2 : w.heap.size + 1 + 1 < w3.heap.size := by omega); (try have hk3_3 : w.heap.size + 1 + 1 + 1 < w3.heap.size := by omega); (try have hk3_4 : wr.heap.size < w3.heap.size := by omega); (try have hk3_5 : wr.heap.size + 1 < w3.heap.size := by omega); (try have hk3_6 : w1.heap.size < w3.heap.size := by omega); (try have hk3_7 : w1.heap.size + 1 < w3.heap.size := by omega); (try have hk3_8 : w2.heap.size < w3.heap.size := by omega); (try have hk3_9 : w2.heap.size + 1 < w3.heap.size := by omega)
        go_wp2_with fail
        apply body_row2 (w.heap.size + 1 + 1 + 1) 39 Try.results30 Try.underlying39 rfl rfl rfl; (case q => simp (disch := (first | omega | (simp; done) | (simp; omega))) [*]; try rfl); (case hi => kernel_rfl)
        exact ⟨by rw [HF.out]; simp [zQ], (by repeat' (first | (with_reducible exact Below.refl _ _) | (with_reducible assumption) | (with_reducible refine Below.setCell ?_ ?_ _) | (with_reducible refine Below.alloc ?_ ?_ _) | (with_reducible refine Below.drew ?_) | (with_reducible refine below_drewN ?_ _) | (with_reducible refine Below.trans ?_ (Below.mono (by with_reducible assumption) ?_)) | go_size | (simp at *; omega)))⟩
      · obtain ⟨qx1, qx2, -⟩ := vQ_iff.1 hx
        obtain ⟨qy1, qy2, -⟩ := vQ_iff.1 hy
        go_enter Try.func30, Try.ntmps30
        go_wp2_with fail; refine (l14Ok_any _ _ _ _ _ _ _ _ _).mono ?_; rintro e w1 ⟨rfl, hb1⟩; obtain ⟨hc1, hf1, -, hB1⟩ := bcell hb1; have hz1 := hb1.size; (try simp at hz1); (try have hk1_0 : w.heap.size < w1.heap.size := by omega); (try have hk1_1 : w.heap.size + 1 < w1.heap.size := by omega); (try have hk1_2 : w.heap.size + 1 + 1 < w1.heap.size := by omega); (try have hk1_3 : w.heap.size + 1 + 1 + 1 < w1.heap.size := by omega); (try have hk1_4 : wr.heap.size < w1.heap.size := by omega); (try have hk1_5 : wr.heap.size + 1 < w1.heap.size := by omega)
        go_wp2_with fail; refine (l02Ok_any _ _ _ (by omega) (by omega)).mono ?_; rintro e w2 ⟨rfl, hb2⟩; obtain ⟨hc2, hf2, -, hB2⟩ := bcell hb2; have hz2 := hb2.size; (try simp at hz2); (try have hk2_0 : w.heap.size < w2.heap.size := by omega); (try have hk2_1 : w.heap.size + 1 < w2.heap.size := by omega); (try have hk2_2 : w.heap.size + 1 + 1 < w2.heap.size := by omega); (try have hk2_3 : w.heap.size + 1 + 1 + 1 < w2.heap.size := by omega); (try have hk2_4 : wr.heap.size < w2.heap.size := by omega); (try have hk2_5 : wr.heap.size + 1 < w2.heap.size := by omega); (try have hk2_6 : w1.heap.size < w2.heap.size := by omega); (try have hk2_7 : w1.heap.size + 1 < w2.heap.size := by omega)
        go_wp2_with fail; refine (l02Ok_any _ _ _ (by omega) (by omega)).mono ?_; rintro e w3 ⟨rfl, hb3⟩; obtain ⟨hc3, hf3, -, hB3⟩ := bcell hb3; have hz3 := hb3.size; (try simp at hz3); (try have hk3_0 : w.heap.size < w3.heap.size := by omega); (try have hk3_1 : w.heap.size + 1 < w3.heap.size := by omega); (try have hk3_2 : w.heap.size + 1 + 1 < w3.heap.size := by omega); (try have hk3_3 : w.heap.size + 1 + 1 + 1 < w3.heap.size := by omega); (try have hk3_4 : wr.heap.size < w3.heap.size := by omega); (try have hk3_5 : wr.heap.size + 1 < w3.heap.size := by omega); (try have hk3_6 : w1.heap.size < w3.heap.size := by omega); (try have hk3_7 : w1.heap.size + 1 < w3.heap.size := by omega); (try have hk3_8 : w2.heap.size < w3.heap.size := by omega); (try have hk3_9 : w2.heap.size + 1 < w3.heap.size := by omega)
        go_upto_region 3 with fail
        have g0 : heapAt w3 w.heap.size = some (.cells #[.int .i64 a, .int .i64 b, .int .i64 c, .int .i64 d, .int .i64 e, .int .i64 f, .int .i64 i, .int .i64 h] 32 (0, 0)) := (by simp (disch := (first | omega | (simp; done) | (simp; omega))) [*])
        have g1 : heapAt w3 (w.heap.size + 1) = some (.cells #[.int .i64 xn, .int .i64 xd] 39 (0, 0)) := (by simp (disch := (first | omega | (simp; done) | (simp; omega))) [*])
        have g2 : heapAt w3 (w.heap.size + 1 + 1) = some (.cells #[.int .i64 yn, .int .i64 yd] 39 (0, 0)) := (by simp (disch := (first | omega | (simp; done) | (simp; omega))) [*])
        have gR : heapAt w3 (w.heap.size + 1 + 1 + 1) = some (.cells #[.int .i64 0, .int .i64 0] 39 (0, 0)) := (by simp (disch := (first | omega | (simp; done) | (simp; omega))) [*])
        have gb : Below w.heap.size w w3 := (by repeat' (first | (with_reducible exact Below.refl _ _) | (with_reducible assumption) | (with_reducible refine Below.setCell ?_ ?_ _) | (with_reducible refine Below.alloc ?_ ?_ _) | (with_reducible refine Below.drew ?_) | (with_reducible refine below_drewN ?_ _) | (with_reducible refine Below.trans ?_ (Below.mono (by with_reducible assumption) ?_)) | go_size | (simp at *; omega)))
        clear hb1 hb2 hb3 hc1 hc2 hc3 hf1 hf2 hf3 hB1 hB2 hB3 hz1 hz2 hz3
        obtain ⟨p1, p2, p3, p4, p5, p6, p7, p8⟩ := cel8 g0
        obtain ⟨p9, p10⟩ := cel2 g1
        obtain ⟨p11, p12⟩ := cel2 g2
        obtain ⟨zR, r1, r2, r3, r4⟩ := blk2 gR
        go_wp2_with fail
        refine wp_loop_rounds 14 ?_
        cases s_a : inR a (-10000) 10000
        case false =>
          have HF : Hid (datF a b c d e f i h xn xd yn yd = (zQ, 2)) := Lib.hid (datF_big hv hx hy (by rw [smB_eq]; simp [s_a]))
          rw [rounds_succ]
          go_wp2_with (go_at_call 61; refine (l14Small_any _ _).mono ?_; rintro e w1 ⟨rfl, rfl⟩)
          apply body_row2 (w.heap.size + 1 + 1 + 1) 39 Try.results30 Try.underlying39 rfl rfl rfl; (case q => simp (disch := (first | omega | (simp; done) | (simp; omega))) [*]; try rfl); (case hi => kernel_rfl)
          exact ⟨by rw [HF.out]; simp [zQ], (by repeat' (first | (with_reducible exact Below.refl _ _) | (with_reducible assumption) | (with_reducible refine Below.setCell ?_ ?_ _) | (with_reducible refine Below.alloc ?_ ?_ _) | (with_reducible refine Below.drew ?_) | (with_reducible refine below_drewN ?_ _) | (with_reducible refine Below.trans ?_ (Below.mono (by with_reducible assumption) ?_)) | go_size | (simp at *; omega)))⟩
        case true =>
          rw [rounds_succ]
          go_wp2_with (go_at_call 61; refine (l14Small_any _ _).mono ?_; rintro e w1 ⟨rfl, rfl⟩)
          cases s_b : inR b (-10000) 10000
          case false =>
            have HF : Hid (datF a b c d e f i h xn xd yn yd = (zQ, 2)) := Lib.hid (datF_big hv hx hy (by rw [smB_eq]; simp [s_b]))
            rw [rounds_succ]
            go_wp2_with (go_at_call 61; refine (l14Small_any _ _).mono ?_; rintro e w1 ⟨rfl, rfl⟩)
            apply body_row2 (w.heap.size + 1 + 1 + 1) 39 Try.results30 Try.underlying39 rfl rfl rfl; (case q => simp (disch := (first | omega | (simp; done) | (simp; omega))) [*]; try rfl); (case hi => kernel_rfl)
            exact ⟨by rw [HF.out]; simp [zQ], (by repeat' (first | (with_reducible exact Below.refl _ _) | (with_reducible assumption) | (with_reducible refine Below.setCell ?_ ?_ _) | (with_reducible refine Below.alloc ?_ ?_ _) | (with_reducible refine Below.drew ?_) | (with_reducible refine below_drewN ?_ _) | (with_reducible refine Below.trans ?_ (Below.mono (by with_reducible assumption) ?_)) | go_size | (simp at *; omega)))⟩
          case true =>
            rw [rounds_succ]
            go_wp2_with (go_at_call 61; refine (l14Small_any _ _).mono ?_; rintro e w1 ⟨rfl, rfl⟩)
            cases s_c : inR c (-10000) 10000
            case false =>
              have HF : Hid (datF a b c d e f i h xn xd yn yd = (zQ, 2)) := Lib.hid (datF_big hv hx hy (by rw [smB_eq]; simp [s_c]))
              rw [rounds_succ]
              go_wp2_with (go_at_call 61; refine (l14Small_any _ _).mono ?_; rintro e w1 ⟨rfl, rfl⟩)
              apply body_row2 (w.heap.size + 1 + 1 + 1) 39 Try.results30 Try.underlying39 rfl rfl rfl; (case q => simp (disch := (first | omega | (simp; done) | (simp; omega))) [*]; try rfl); (case hi => kernel_rfl)
              exact ⟨by rw [HF.out]; simp [zQ], (by repeat' (first | (with_reducible exact Below.refl _ _) | (with_reducible assumption) | (with_reducible refine Below.setCell ?_ ?_ _) | (with_reducible refine Below.alloc ?_ ?_ _) | (with_reducible refine Below.drew ?_) | (with_reducible refine below_drewN ?_ _) | (with_reducible refine Below.trans ?_ (Below.mono (by with_reducible assumption) ?_)) | go_size | (simp at *; omega)))⟩
            case true =>
              rw [rounds_succ]
              go_wp2_with (go_at_call 61; refine (l14Small_any _ _).mono ?_; rintro e w1 ⟨rfl, rfl⟩)
              cases s_d : inR d (-10000) 10000
              case false =>
                have HF : Hid (datF a b c d e f i h xn xd yn yd = (zQ, 2)) := Lib.hid (datF_big hv hx hy (by rw [smB_eq]; simp [s_d]))
                rw [rounds_succ]
                go_wp2_with (go_at_call 61; refine (l14Small_any _ _).mono ?_; rintro e w1 ⟨rfl, rfl⟩)
                apply body_row2 (w.heap.size + 1 + 1 + 1) 39 Try.results30 Try.underlying39 rfl rfl rfl; (case q => simp (disch := (first | omega | (simp; done) | (simp; omega))) [*]; try rfl); (case hi => kernel_rfl)
                exact ⟨by rw [HF.out]; simp [zQ], (by repeat' (first | (with_reducible exact Below.refl _ _) | (with_reducible assumption) | (with_reducible refine Below.setCell ?_ ?_ _) | (with_reducible refine Below.alloc ?_ ?_ _) | (with_reducible refine Below.drew ?_) | (with_reducible refine below_drewN ?_ _) | (with_reducible refine Below.trans ?_ (Below.mono (by with_reducible assumption) ?_)) | go_size | (simp at *; omega)))⟩
              case true =>
                rw [rounds_succ]
                go_wp2_with (go_at_call 61; refine (l14Small_any _ _).mono ?_; rintro e w1 ⟨rfl, rfl⟩)
                cases s_e : inR e (-10000) 10000
                case false =>
                  have HF : Hid (datF a b c d e f i h xn xd yn yd = (zQ, 2)) := Lib.hid (datF_big hv hx hy (by rw [smB_eq]; simp [s_e]))
                  rw [rounds_succ]
                  go_wp2_with (go_at_call 61; refine (l14Small_any _ _).mono ?_; rintro e w1 ⟨rfl, rfl⟩)
                  apply body_row2 (w.heap.size + 1 + 1 + 1) 39 Try.results30 Try.underlying39 rfl rfl rfl; (case q => simp (disch := (first | omega | (simp; done) | (simp; omega))) [*]; try rfl); (case hi => kernel_rfl)
                  exact ⟨by rw [HF.out]; simp [zQ], (by repeat' (first | (with_reducible exact Below.refl _ _) | (with_reducible assumption) | (with_reducible refine Below.setCell ?_ ?_ _) | (with_reducible refine Below.alloc ?_ ?_ _) | (with_reducible refine Below.drew ?_) | (with_reducible refine below_drewN ?_ _) | (with_reducible refine Below.trans ?_ (Below.mono (by with_reducible assumption) ?_)) | go_size | (simp at *; omega)))⟩
                case true =>
                  rw [rounds_succ]
                  go_wp2_with (go_at_call 61; refine (l14Small_any _ _).mono ?_; rintro e w1 ⟨rfl, rfl⟩)
                  cases s_f : inR f (-10000) 10000
                  case false =>
                    have HF : Hid (datF a b c d e f i h xn xd yn yd = (zQ, 2)) := Lib.hid (datF_big hv hx hy (by rw [smB_eq]; simp [s_f]))
                    rw [rounds_succ]
                    go_wp2_with (go_at_call 61; refine (l14Small_any _ _).mono ?_; rintro e w1 ⟨rfl, rfl⟩)
                    apply body_row2 (w.heap.size + 1 + 1 + 1) 39 Try.results30 Try.underlying39 rfl rfl rfl; (case q => simp (disch := (first | omega | (simp; done) | (simp; omega))) [*]; try rfl); (case hi => kernel_rfl)
                    exact ⟨by rw [HF.out]; simp [zQ], (by repeat' (first | (with_reducible exact Below.refl _ _) | (with_reducible assumption) | (with_reducible refine Below.setCell ?_ ?_ _) | (with_reducible refine Below.alloc ?_ ?_ _) | (with_reducible refine Below.drew ?_) | (with_reducible refine below_drewN ?_ _) | (with_reducible refine Below.trans ?_ (Below.mono (by with_reducible assumption) ?_)) | go_size | (simp at *; omega)))⟩
                  case true =>
                    rw [rounds_succ]
                    go_wp2_with (go_at_call 61; refine (l14Small_any _ _).mono ?_; rintro e w1 ⟨rfl, rfl⟩)
                    cases s_i : inR i (-10000) 10000
                    case false =>
                      have HF : Hid (datF a b c d e f i h xn xd yn yd = (zQ, 2)) := Lib.hid (datF_big hv hx hy (by rw [smB_eq]; simp [s_i]))
                      rw [rounds_succ]
                      go_wp2_with (go_at_call 61; refine (l14Small_any _ _).mono ?_; rintro e w1 ⟨rfl, rfl⟩)
                      apply body_row2 (w.heap.size + 1 + 1 + 1) 39 Try.results30 Try.underlying39 rfl rfl rfl; (case q => simp (disch := (first | omega | (simp; done) | (simp; omega))) [*]; try rfl); (case hi => kernel_rfl)
                      exact ⟨by rw [HF.out]; simp [zQ], (by repeat' (first | (with_reducible exact Below.refl _ _) | (with_reducible assumption) | (with_reducible refine Below.setCell ?_ ?_ _) | (with_reducible refine Below.alloc ?_ ?_ _) | (with_reducible refine Below.drew ?_) | (with_reducible refine below_drewN ?_ _) | (with_reducible refine Below.trans ?_ (Below.mono (by with_reducible assumption) ?_)) | go_size | (simp at *; omega)))⟩
                    case true =>
                      rw [rounds_succ]
                      go_wp2_with (go_at_call 61; refine (l14Small_any _ _).mono ?_; rintro e w1 ⟨rfl, rfl⟩)
                      cases s_h : inR h (-10000) 10000
                      case false =>
                        have HF : Hid (datF a b c d e f i h xn xd yn yd = (zQ, 2)) := Lib.hid (datF_big hv hx hy (by rw [smB_eq]; simp [s_h]))
                        rw [rounds_succ]
                        go_wp2_with (go_at_call 61; refine (l14Small_any _ _).mono ?_; rintro e w1 ⟨rfl, rfl⟩)
                        apply body_row2 (w.heap.size + 1 + 1 + 1) 39 Try.results30 Try.underlying39 rfl rfl rfl; (case q => simp (disch := (first | omega | (simp; done) | (simp; omega))) [*]; try rfl); (case hi => kernel_rfl)
                        exact ⟨by rw [HF.out]; simp [zQ], (by repeat' (first | (with_reducible exact Below.refl _ _) | (with_reducible assumption) | (with_reducible refine Below.setCell ?_ ?_ _) | (with_reducible refine Below.alloc ?_ ?_ _) | (with_reducible refine Below.drew ?_) | (with_reducible refine below_drewN ?_ _) | (with_reducible refine Below.trans ?_ (Below.mono (by with_reducible assumption) ?_)) | go_size | (simp at *; omega)))⟩
                      case true =>
                        rw [rounds_succ]
                        go_wp2_with (go_at_call 61; refine (l14Small_any _ _).mono ?_; rintro e w1 ⟨rfl, rfl⟩)
                        cases s_xn : inR xn (-10000) 10000
                        case false =>
                          have HF : Hid (datF a b c d e f i h xn xd yn yd = (zQ, 2)) := Lib.hid (datF_big hv hx hy (by rw [smB_eq]; simp [s_xn]))
                          rw [rounds_succ]
                          go_wp2_with (go_at_call 61; refine (l14Small_any _ _).mono ?_; rintro e w1 ⟨rfl, rfl⟩)
                          apply body_row2 (w.heap.size + 1 + 1 + 1) 39 Try.results30 Try.underlying39 rfl rfl rfl; (case q => simp (disch := (first | omega | (simp; done) | (simp; omega))) [*]; try rfl); (case hi => kernel_rfl)
                          exact ⟨by rw [HF.out]; simp [zQ], (by repeat' (first | (with_reducible exact Below.refl _ _) | (with_reducible assumption) | (with_reducible refine Below.setCell ?_ ?_ _) | (with_reducible refine Below.alloc ?_ ?_ _) | (with_reducible refine Below.drew ?_) | (with_reducible refine below_drewN ?_ _) | (with_reducible refine Below.trans ?_ (Below.mono (by with_reducible assumption) ?_)) | go_size | (simp at *; omega)))⟩
                        case true =>
                          rw [rounds_succ]
                          go_wp2_with (go_at_call 61; refine (l14Small_any _ _).mono ?_; rintro e w1 ⟨rfl, rfl⟩)
                          cases s_xd : inR xd (-10000) 10000
                          case false =>
                            have HF : Hid (datF a b c d e f i h xn xd yn yd = (zQ, 2)) := Lib.hid (datF_big hv hx hy (by rw [smB_eq]; simp [s_xd]))
                            rw [rounds_succ]
                            go_wp2_with (go_at_call 61; refine (l14Small_any _ _).mono ?_; rintro e w1 ⟨rfl, rfl⟩)
                            apply body_row2 (w.heap.size + 1 + 1 + 1) 39 Try.results30 Try.underlying39 rfl rfl rfl; (case q => simp (disch := (first | omega | (simp; done) | (simp; omega))) [*]; try rfl); (case hi => kernel_rfl)
                            exact ⟨by rw [HF.out]; simp [zQ], (by repeat' (first | (with_reducible exact Below.refl _ _) | (with_reducible assumption) | (with_reducible refine Below.setCell ?_ ?_ _) | (with_reducible refine Below.alloc ?_ ?_ _) | (with_reducible refine Below.drew ?_) | (with_reducible refine below_drewN ?_ _) | (with_reducible refine Below.trans ?_ (Below.mono (by with_reducible assumption) ?_)) | go_size | (simp at *; omega)))⟩
                          case true =>
                            rw [rounds_succ]
                            go_wp2_with (go_at_call 61; refine (l14Small_any _ _).mono ?_; rintro e w1 ⟨rfl, rfl⟩)
                            cases s_yn : inR yn (-10000) 10000
                            case false =>
                              have HF : Hid (datF a b c d e f i h xn xd yn yd = (zQ, 2)) := Lib.hid (datF_big hv hx hy (by rw [smB_eq]; simp [s_yn]))
                              rw [rounds_succ]
                              go_wp2_with (go_at_call 61; refine (l14Small_any _ _).mono ?_; rintro e w1 ⟨rfl, rfl⟩)
                              apply body_row2 (w.heap.size + 1 + 1 + 1) 39 Try.results30 Try.underlying39 rfl rfl rfl; (case q => simp (disch := (first | omega | (simp; done) | (simp; omega))) [*]; try rfl); (case hi => kernel_rfl)
                              exact ⟨by rw [HF.out]; simp [zQ], (by repeat' (first | (with_reducible exact Below.refl _ _) | (with_reducible assumption) | (with_reducible refine Below.setCell ?_ ?_ _) | (with_reducible refine Below.alloc ?_ ?_ _) | (with_reducible refine Below.drew ?_) | (with_reducible refine below_drewN ?_ _) | (with_reducible refine Below.trans ?_ (Below.mono (by with_reducible assumption) ?_)) | go_size | (simp at *; omega)))⟩
                            case true =>
                              rw [rounds_succ]
                              go_wp2_with (go_at_call 61; refine (l14Small_any _ _).mono ?_; rintro e w1 ⟨rfl, rfl⟩)
                              cases s_yd : inR yd (-10000) 10000
                              case false =>
                                have HF : Hid (datF a b c d e f i h xn xd yn yd = (zQ, 2)) := Lib.hid (datF_big hv hx hy (by rw [smB_eq]; simp [s_yd]))
                                rw [rounds_succ]
                                go_wp2_with (go_at_call 61; refine (l14Small_any _ _).mono ?_; rintro e w1 ⟨rfl, rfl⟩)
                                apply body_row2 (w.heap.size + 1 + 1 + 1) 39 Try.results30 Try.underlying39 rfl rfl rfl; (case q => simp (disch := (first | omega | (simp; done) | (simp; omega))) [*]; try rfl); (case hi => kernel_rfl)
                                exact ⟨by rw [HF.out]; simp [zQ], (by repeat' (first | (with_reducible exact Below.refl _ _) | (with_reducible assumption) | (with_reducible refine Below.setCell ?_ ?_ _) | (with_reducible refine Below.alloc ?_ ?_ _) | (with_reducible refine Below.drew ?_) | (with_reducible refine below_drewN ?_ _) | (with_reducible refine Below.trans ?_ (Below.mono (by with_reducible assumption) ?_)) | go_size | (simp at *; omega)))⟩
                              case true =>
                                rw [rounds_succ]
                                go_wp2_with (go_at_call 61; refine (l14Small_any _ _).mono ?_; rintro e w1 ⟨rfl, rfl⟩)
                                rw [rounds_succ]
                                go_upto_region 9 with fail
                                have hs : smB a b c d e f i h xn xd yn yd = true := by rw [smB_eq]; simp only [s_a, s_b, s_c, s_d, s_e, s_f, s_i, s_h, s_xn, s_xd, s_yn, s_yd]; rfl
                                obtain ⟨P1, P2, P3, P4, N, M, eP1, eP2, eP3, eP4, wP1, wP2, wP3, wP4, ⟨mAa, mBa⟩, ⟨mAb, mBb⟩, ⟨mAc, mBc⟩, ⟨mAd, mBd⟩, ⟨mAe, mBe⟩, ⟨mAf, mBf⟩, ⟨mAi, mBi⟩, ⟨mAh, mBh⟩, ⟨nAa, nBa⟩, ⟨nAb, nBb⟩, ⟨nAc, nBc⟩, ⟨nAd, nBd⟩, ⟨nAe, nBe⟩, ⟨nAf, nBf⟩, ⟨nAi, nBi⟩, ⟨nAh, nBh⟩, aa, ab, ac, ad, ae, af, ai, ah, eN, eM, ⟨bN1, bN2⟩, ⟨bM1, bM2⟩, hF, ⟨cAP1, cBP1⟩, ⟨cAP2, cBP2⟩, ⟨cAP3, cBP3⟩, ⟨cAP4, cBP4⟩⟩ := dat_facts hv hx hy hs
                                clear hs s_a s_b s_c s_d s_e s_f s_i s_h s_xn s_xd s_yn s_yd
                                cases hM : (M == 0)
                                · have hM' : M ≠ 0 := by simpa using hM
                                  have HF : Hid (datF a b c d e f i h xn xd yn yd = plainQ N M) := Lib.hid (by rw [hF, if_neg hM'])
                                  clear hF
                                  go_wp2_with (go_at_call 53; refine (l02Full_any _ _ _ (by omega) (by omega) hM').mono ?_; rintro e w1 ⟨rfl, hb1⟩; obtain ⟨hc1, hf1, -, hB1⟩ := bcell hb1; have hz1 := hb1.size; (try simp at hz1); (try have hk0 : w.heap.size < w1.heap.size := by omega); (try have hk1 : w.heap.size + 1 < w1.heap.size := by omega); (try have hk2 : w.heap.size + 1 + 1 < w1.heap.size := by omega))
                                  apply body_row2 (w.heap.size + 1 + 1 + 1) 39 Try.results30 Try.underlying39 rfl rfl rfl; (case q => simp (disch := (first | omega | (simp; done) | (simp; omega))) [*]; try rfl); (case hi => kernel_rfl)
                                  exact ⟨by rw [HF.out]; rfl, (by repeat' (first | (with_reducible exact Below.refl _ _) | (with_reducible assumption) | (with_reducible refine Below.setCell ?_ ?_ _) | (with_reducible refine Below.alloc ?_ ?_ _) | (with_reducible refine Below.drew ?_) | (with_reducible refine below_drewN ?_ _) | (with_reducible refine Below.trans ?_ (Below.mono (by with_reducible assumption) ?_)) | go_size | (simp at *; omega)))⟩
                                · have HF : Hid (datF a b c d e f i h xn xd yn yd = (zQ, 6)) := Lib.hid (by rw [hF, if_pos (by simpa using hM)])
                                  clear hF
                                  go_wp2_with fail
                                  apply body_row2 (w.heap.size + 1 + 1 + 1) 39 Try.results30 Try.underlying39 rfl rfl rfl; (case q => simp (disch := (first | omega | (simp; done) | (simp; omega))) [*]; try rfl); (case hi => kernel_rfl)
                                  exact ⟨by rw [HF.out]; simp [zQ], (by repeat' (first | (with_reducible exact Below.refl _ _) | (with_reducible assumption) | (with_reducible refine Below.setCell ?_ ?_ _) | (with_reducible refine Below.alloc ?_ ?_ _) | (with_reducible refine Below.drew ?_) | (with_reducible refine below_drewN ?_ _) | (with_reducible refine Below.trans ?_ (Below.mono (by with_reducible assumption) ?_)) | go_size | (simp at *; omega)))⟩
end Go.Proofs.Ytfnjboaocalidaa
