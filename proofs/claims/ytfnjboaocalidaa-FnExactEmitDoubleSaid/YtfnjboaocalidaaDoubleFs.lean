/- Terms that a bihomographic function knows: the reference's walk. -/
import Derived.Test.YtfnjboaocalidaaDoubleF
namespace Go.Proofs.Ytfnjboaocalidaa
open Go.ChangeShapes Go.WideShapes Go.ChangeAt Go.RowKit
set_option linter.unusedVariables false
set_option maxHeartbeats 4000000
set_option maxRecDepth 20000
theorem l14Know_any (a b c d e f i h : Int) (w : World) (hb : bD 1000000000 a b c d e f i h = true) :
    Calls Try.prog 65 #[.agg #[.int .i64 a, .int .i64 b, .int .i64 c, .int .i64 d, .int .i64 e, .int .i64 f, .int .i64 i, .int .i64 h]] w fun e' w' => e' = .returned (.tuple #[.int .i64 (kd8 a b c d e f i h).1, .bool (kd8 a b c d e f i h).2]) ∧ Below w.heap.size w w' := by
  obtain ⟨T1, T2, T3, B1, B2, B3, eT1, eT2, eT3, eB1, eB2, eB3, hkd, ⟨la, ua⟩, ⟨lb, ub⟩, ⟨lc, uc⟩, ⟨ld, ud⟩, ⟨le, ue⟩, ⟨lf, uf⟩, ⟨li, ui⟩, ⟨lh, uh⟩, ⟨lT1, uT1⟩, ⟨lT2, uT2⟩, ⟨lT3, uT3⟩, ⟨lB1, uB1⟩, ⟨lB2, uB2⟩, ⟨lB3, uB3⟩⟩ := kd_facts hb
  have HK := Lib.hid hkd
  clear hkd hb
  obtain ⟨b0, hb0⟩ : ∃ b0, decide (0 < e) = b0 := ⟨_, rfl⟩
  cases z0 : (e == 0)
  case true =>
    have HF : Hid (kd8 a b c d e f i h = (0, false)) := Lib.hid (by rw [HK.out]; exact kdF_bad (by simp [kdB, z0]))
    go_enter Try.func65, Try.ntmps65
    go_wp2_with fail
    refine wp_loop_rounds 6 ?_
    repeat (rw [rounds_succ]; go_wp2_with fail; try (go_quiet (fail)); go_wp2_with fail)
    go_ret2
    exact ⟨by rw [HF.out]; rfl, (by repeat' (first | (with_reducible exact Below.refl _ _) | (with_reducible assumption) | (with_reducible refine Below.setCell ?_ ?_ _) | (with_reducible refine Below.alloc ?_ ?_ _) | (with_reducible refine Below.drew ?_) | (with_reducible refine below_drewN ?_ _) | (with_reducible refine Below.trans ?_ (Below.mono (by with_reducible assumption) ?_)) | go_size | (simp at *; omega)))⟩
  case false =>
    have n0 : e ≠ 0 := by simpa using z0
    cases z1 : (B1 == 0)
    case true =>
      have HF : Hid (kd8 a b c d e f i h = (0, false)) := Lib.hid (by rw [HK.out]; exact kdF_bad (by simp [kdB, z1, z0]))
      go_enter Try.func65, Try.ntmps65
      go_wp2_with fail
      refine wp_loop_rounds 6 ?_
      repeat (rw [rounds_succ]; go_wp2_with fail; try (go_quiet (fail)); go_wp2_with fail)
      go_ret2
      exact ⟨by rw [HF.out]; rfl, (by repeat' (first | (with_reducible exact Below.refl _ _) | (with_reducible assumption) | (with_reducible refine Below.setCell ?_ ?_ _) | (with_reducible refine Below.alloc ?_ ?_ _) | (with_reducible refine Below.drew ?_) | (with_reducible refine below_drewN ?_ _) | (with_reducible refine Below.trans ?_ (Below.mono (by with_reducible assumption) ?_)) | go_size | (simp at *; omega)))⟩
    case false =>
      have n1 : B1 ≠ 0 := by simpa using z1
      cases s1 : (decide (0 < B1) == b0)
      case false =>
        have d1 : decide (0 < B1) = !b0 := by cases b0 <;> simp_all
        have HF : Hid (kd8 a b c d e f i h = (0, false)) := Lib.hid (by rw [HK.out]; exact kdF_bad (by simp only [kdB, hb0, d1]; cases b0 <;> simp))
        have g1 : (sgn B1 = sgn e) = False := by rw [eq_iff_iff, iff_false, sgn_eq n1 n0, d1, hb0]; cases b0 <;> decide
        clear s1
        go_enter Try.func65, Try.ntmps65
        go_wp2_with fail
        refine wp_loop_rounds 6 ?_
        repeat (rw [rounds_succ]; go_wp2_with fail; try (go_quiet (fail)); go_wp2_with fail)
        go_ret2
        exact ⟨by rw [HF.out]; rfl, (by repeat' (first | (with_reducible exact Below.refl _ _) | (with_reducible assumption) | (with_reducible refine Below.setCell ?_ ?_ _) | (with_reducible refine Below.alloc ?_ ?_ _) | (with_reducible refine Below.drew ?_) | (with_reducible refine below_drewN ?_ _) | (with_reducible refine Below.trans ?_ (Below.mono (by with_reducible assumption) ?_)) | go_size | (simp at *; omega)))⟩
      case true =>
        have d1 : decide (0 < B1) = b0 := by simpa using s1
        have g1 : sgn B1 = sgn e := (sgn_eq n1 n0).2 (by rw [d1, hb0])
        clear s1
        cases z2 : (B2 == 0)
        case true =>
          have HF : Hid (kd8 a b c d e f i h = (0, false)) := Lib.hid (by rw [HK.out]; exact kdF_bad (by simp [kdB, z2, z0, z1]))
          go_enter Try.func65, Try.ntmps65
          go_wp2_with fail
          refine wp_loop_rounds 6 ?_
          repeat (rw [rounds_succ]; go_wp2_with fail; try (go_quiet (fail)); go_wp2_with fail)
          go_ret2
          exact ⟨by rw [HF.out]; rfl, (by repeat' (first | (with_reducible exact Below.refl _ _) | (with_reducible assumption) | (with_reducible refine Below.setCell ?_ ?_ _) | (with_reducible refine Below.alloc ?_ ?_ _) | (with_reducible refine Below.drew ?_) | (with_reducible refine below_drewN ?_ _) | (with_reducible refine Below.trans ?_ (Below.mono (by with_reducible assumption) ?_)) | go_size | (simp at *; omega)))⟩
        case false =>
          have n2 : B2 ≠ 0 := by simpa using z2
          cases s2 : (decide (0 < B2) == b0)
          case false =>
            have d2 : decide (0 < B2) = !b0 := by cases b0 <;> simp_all
            have HF : Hid (kd8 a b c d e f i h = (0, false)) := Lib.hid (by rw [HK.out]; exact kdF_bad (by simp only [kdB, hb0, d2]; cases b0 <;> simp))
            have g2 : (sgn B2 = sgn e) = False := by rw [eq_iff_iff, iff_false, sgn_eq n2 n0, d2, hb0]; cases b0 <;> decide
            clear s2
            go_enter Try.func65, Try.ntmps65
            go_wp2_with fail
            refine wp_loop_rounds 6 ?_
            repeat (rw [rounds_succ]; go_wp2_with fail; try (go_quiet (fail)); go_wp2_with fail)
            go_ret2
            exact ⟨by rw [HF.out]; rfl, (by repeat' (first | (with_reducible exact Below.refl _ _) | (with_reducible assumption) | (with_reducible refine Below.setCell ?_ ?_ _) | (with_reducible refine Below.alloc ?_ ?_ _) | (with_reducible refine Below.drew ?_) | (with_reducible refine below_drewN ?_ _) | (with_reducible refine Below.trans ?_ (Below.mono (by with_reducible assumption) ?_)) | go_size | (simp at *; omega)))⟩
          case true =>
            have d2 : decide (0 < B2) = b0 := by simpa using s2
            have g2 : sgn B2 = sgn e := (sgn_eq n2 n0).2 (by rw [d2, hb0])
            clear s2
            cases z3 : (B3 == 0)
            case true =>
              have HF : Hid (kd8 a b c d e f i h = (0, false)) := Lib.hid (by rw [HK.out]; exact kdF_bad (by simp [kdB, z3, z0, z1, z2]))
              go_enter Try.func65, Try.ntmps65
              go_wp2_with fail
              refine wp_loop_rounds 6 ?_
              repeat (rw [rounds_succ]; go_wp2_with fail; try (go_quiet (fail)); go_wp2_with fail)
              go_ret2
              exact ⟨by rw [HF.out]; rfl, (by repeat' (first | (with_reducible exact Below.refl _ _) | (with_reducible assumption) | (with_reducible refine Below.setCell ?_ ?_ _) | (with_reducible refine Below.alloc ?_ ?_ _) | (with_reducible refine Below.drew ?_) | (with_reducible refine below_drewN ?_ _) | (with_reducible refine Below.trans ?_ (Below.mono (by with_reducible assumption) ?_)) | go_size | (simp at *; omega)))⟩
            case false =>
              have n3 : B3 ≠ 0 := by simpa using z3
              cases s3 : (decide (0 < B3) == b0)
              case false =>
                have d3 : decide (0 < B3) = !b0 := by cases b0 <;> simp_all
                have HF : Hid (kd8 a b c d e f i h = (0, false)) := Lib.hid (by rw [HK.out]; exact kdF_bad (by simp only [kdB, hb0, d3]; cases b0 <;> simp))
                have g3 : (sgn B3 = sgn e) = False := by rw [eq_iff_iff, iff_false, sgn_eq n3 n0, d3, hb0]; cases b0 <;> decide
                clear s3
                go_enter Try.func65, Try.ntmps65
                go_wp2_with fail
                refine wp_loop_rounds 6 ?_
                repeat (rw [rounds_succ]; go_wp2_with fail; try (go_quiet (fail)); go_wp2_with fail)
                go_ret2
                exact ⟨by rw [HF.out]; rfl, (by repeat' (first | (with_reducible exact Below.refl _ _) | (with_reducible assumption) | (with_reducible refine Below.setCell ?_ ?_ _) | (with_reducible refine Below.alloc ?_ ?_ _) | (with_reducible refine Below.drew ?_) | (with_reducible refine below_drewN ?_ _) | (with_reducible refine Below.trans ?_ (Below.mono (by with_reducible assumption) ?_)) | go_size | (simp at *; omega)))⟩
              case true =>
                have d3 : decide (0 < B3) = b0 := by simpa using s3
                have g3 : sgn B3 = sgn e := (sgn_eq n3 n0).2 (by rw [d3, hb0])
                clear s3
                have hB : kdB e B1 B2 B3 = false := by simp only [kdB, z0, z1, z2, z3, hb0, d1, d2, d3]; simp
                have HQ : Hid (kd8 a b c d e f i h = kdQ a T1 T2 T3 e B1 B2 B3) := Lib.hid (by rw [HK.out]; exact kdF_good hB)
                have FD0 := Lib.hid (l13Div_any a e · (by omega) (by omega) n0)
                have FD1 := Lib.hid (l13Div_any T1 B1 · (by omega) (by omega) n1)
                have FD2 := Lib.hid (l13Div_any T2 B2 · (by omega) (by omega) n2)
                have FD3 := Lib.hid (l13Div_any T3 B3 · (by omega) (by omega) n3)
                have HR : Hid (kdQ a T1 T2 T3 e B1 B2 B3 = if (fl T1 B1 != fl a e || fl T2 B2 != fl a e || fl T3 B3 != fl a e) = true then (0, false) else (fl a e, true)) := Lib.hid rfl
                generalize fl a e = F0 at *
                generalize fl T1 B1 = F1 at *
                generalize fl T2 B2 = F2 at *
                generalize fl T3 B3 = F3 at *
                cases q1 : (F1 != F0)
                case true =>
                  have HF : Hid (kd8 a b c d e f i h = (0, false)) := Lib.hid (by rw [HQ.out, HR.out]; simp [q1])
                  go_enter Try.func65, Try.ntmps65
                  go_wp2_with fail
                  refine wp_loop_rounds 6 ?_
                  repeat (rw [rounds_succ]; go_wp2_with fail; try (go_quiet (fail)); go_wp2_with fail)
                  go_quiet ((go_at_call 82; first | (with_reducible exact quiet_left (FD0.out _)) | (with_reducible exact quiet_add_left (FD0.out _)) | (with_reducible exact quiet_left (FD1.out _)) | (with_reducible exact quiet_add_left (FD1.out _)) | (with_reducible exact quiet_left (FD2.out _)) | (with_reducible exact quiet_add_left (FD2.out _)) | (with_reducible exact quiet_left (FD3.out _)) | (with_reducible exact quiet_add_left (FD3.out _))))
                  go_wp2_with fail
                  refine wp_loop_rounds 6 ?_
                  repeat (rw [rounds_succ]; go_wp2_with fail; try (go_quiet ((go_at_call 82; first | (with_reducible exact quiet_left (FD0.out _)) | (with_reducible exact quiet_add_left (FD0.out _)) | (with_reducible exact quiet_left (FD1.out _)) | (with_reducible exact quiet_add_left (FD1.out _)) | (with_reducible exact quiet_left (FD2.out _)) | (with_reducible exact quiet_add_left (FD2.out _)) | (with_reducible exact quiet_left (FD3.out _)) | (with_reducible exact quiet_add_left (FD3.out _))))); go_wp2_with fail)
                  go_ret2
                  exact ⟨by rw [HF.out]; rfl, (by repeat' (first | (with_reducible exact Below.refl _ _) | (with_reducible assumption) | (with_reducible refine Below.setCell ?_ ?_ _) | (with_reducible refine Below.alloc ?_ ?_ _) | (with_reducible refine Below.drew ?_) | (with_reducible refine below_drewN ?_ _) | (with_reducible refine Below.trans ?_ (Below.mono (by with_reducible assumption) ?_)) | go_size | (simp at *; omega)))⟩
                case false =>
                  cases q2 : (F2 != F0)
                  case true =>
                    have HF : Hid (kd8 a b c d e f i h = (0, false)) := Lib.hid (by rw [HQ.out, HR.out]; simp [q1, q2])
                    go_enter Try.func65, Try.ntmps65
                    go_wp2_with fail
                    refine wp_loop_rounds 6 ?_
                    repeat (rw [rounds_succ]; go_wp2_with fail; try (go_quiet (fail)); go_wp2_with fail)
                    go_quiet ((go_at_call 82; first | (with_reducible exact quiet_left (FD0.out _)) | (with_reducible exact quiet_add_left (FD0.out _)) | (with_reducible exact quiet_left (FD1.out _)) | (with_reducible exact quiet_add_left (FD1.out _)) | (with_reducible exact quiet_left (FD2.out _)) | (with_reducible exact quiet_add_left (FD2.out _)) | (with_reducible exact quiet_left (FD3.out _)) | (with_reducible exact quiet_add_left (FD3.out _))))
                    go_wp2_with fail
                    refine wp_loop_rounds 6 ?_
                    repeat (rw [rounds_succ]; go_wp2_with fail; try (go_quiet ((go_at_call 82; first | (with_reducible exact quiet_left (FD0.out _)) | (with_reducible exact quiet_add_left (FD0.out _)) | (with_reducible exact quiet_left (FD1.out _)) | (with_reducible exact quiet_add_left (FD1.out _)) | (with_reducible exact quiet_left (FD2.out _)) | (with_reducible exact quiet_add_left (FD2.out _)) | (with_reducible exact quiet_left (FD3.out _)) | (with_reducible exact quiet_add_left (FD3.out _))))); go_wp2_with fail)
                    go_ret2
                    exact ⟨by rw [HF.out]; rfl, (by repeat' (first | (with_reducible exact Below.refl _ _) | (with_reducible assumption) | (with_reducible refine Below.setCell ?_ ?_ _) | (with_reducible refine Below.alloc ?_ ?_ _) | (with_reducible refine Below.drew ?_) | (with_reducible refine below_drewN ?_ _) | (with_reducible refine Below.trans ?_ (Below.mono (by with_reducible assumption) ?_)) | go_size | (simp at *; omega)))⟩
                  case false =>
                    cases q3 : (F3 != F0)
                    case true =>
                      have HF : Hid (kd8 a b c d e f i h = (0, false)) := Lib.hid (by rw [HQ.out, HR.out]; simp [q1, q2, q3])
                      go_enter Try.func65, Try.ntmps65
                      go_wp2_with fail
                      refine wp_loop_rounds 6 ?_
                      repeat (rw [rounds_succ]; go_wp2_with fail; try (go_quiet (fail)); go_wp2_with fail)
                      go_quiet ((go_at_call 82; first | (with_reducible exact quiet_left (FD0.out _)) | (with_reducible exact quiet_add_left (FD0.out _)) | (with_reducible exact quiet_left (FD1.out _)) | (with_reducible exact quiet_add_left (FD1.out _)) | (with_reducible exact quiet_left (FD2.out _)) | (with_reducible exact quiet_add_left (FD2.out _)) | (with_reducible exact quiet_left (FD3.out _)) | (with_reducible exact quiet_add_left (FD3.out _))))
                      go_wp2_with fail
                      refine wp_loop_rounds 6 ?_
                      repeat (rw [rounds_succ]; go_wp2_with fail; try (go_quiet ((go_at_call 82; first | (with_reducible exact quiet_left (FD0.out _)) | (with_reducible exact quiet_add_left (FD0.out _)) | (with_reducible exact quiet_left (FD1.out _)) | (with_reducible exact quiet_add_left (FD1.out _)) | (with_reducible exact quiet_left (FD2.out _)) | (with_reducible exact quiet_add_left (FD2.out _)) | (with_reducible exact quiet_left (FD3.out _)) | (with_reducible exact quiet_add_left (FD3.out _))))); go_wp2_with fail)
                      go_ret2
                      exact ⟨by rw [HF.out]; rfl, (by repeat' (first | (with_reducible exact Below.refl _ _) | (with_reducible assumption) | (with_reducible refine Below.setCell ?_ ?_ _) | (with_reducible refine Below.alloc ?_ ?_ _) | (with_reducible refine Below.drew ?_) | (with_reducible refine below_drewN ?_ _) | (with_reducible refine Below.trans ?_ (Below.mono (by with_reducible assumption) ?_)) | go_size | (simp at *; omega)))⟩
                    case false =>
                      have HF : Hid (kd8 a b c d e f i h = (F0, true)) := Lib.hid (by rw [HQ.out, HR.out]; simp [q1, q2, q3])
                      go_enter Try.func65, Try.ntmps65
                      go_wp2_with fail
                      refine wp_loop_rounds 6 ?_
                      repeat (rw [rounds_succ]; go_wp2_with fail; try (go_quiet (fail)); go_wp2_with fail)
                      go_quiet ((go_at_call 82; first | (with_reducible exact quiet_left (FD0.out _)) | (with_reducible exact quiet_add_left (FD0.out _)) | (with_reducible exact quiet_left (FD1.out _)) | (with_reducible exact quiet_add_left (FD1.out _)) | (with_reducible exact quiet_left (FD2.out _)) | (with_reducible exact quiet_add_left (FD2.out _)) | (with_reducible exact quiet_left (FD3.out _)) | (with_reducible exact quiet_add_left (FD3.out _))))
                      go_wp2_with fail
                      refine wp_loop_rounds 6 ?_
                      repeat (rw [rounds_succ]; go_wp2_with fail; try (go_quiet ((go_at_call 82; first | (with_reducible exact quiet_left (FD0.out _)) | (with_reducible exact quiet_add_left (FD0.out _)) | (with_reducible exact quiet_left (FD1.out _)) | (with_reducible exact quiet_add_left (FD1.out _)) | (with_reducible exact quiet_left (FD2.out _)) | (with_reducible exact quiet_add_left (FD2.out _)) | (with_reducible exact quiet_left (FD3.out _)) | (with_reducible exact quiet_add_left (FD3.out _))))); go_wp2_with fail)
                      go_ret2
                      exact ⟨by rw [HF.out]; rfl, (by repeat' (first | (with_reducible exact Below.refl _ _) | (with_reducible assumption) | (with_reducible refine Below.setCell ?_ ?_ _) | (with_reducible refine Below.alloc ?_ ?_ _) | (with_reducible refine Below.drew ?_) | (with_reducible refine below_drewN ?_ _) | (with_reducible refine Below.trans ?_ (Below.mono (by with_reducible assumption) ?_)) | go_size | (simp at *; omega)))⟩
end Go.Proofs.Ytfnjboaocalidaa
