/- Quadratic forms: the steps to a reduced form, walked: the program; and the law. -/
import Derived.Test.YtolbihoeheogkaaDoorFormJ
namespace Go.Proofs.YtolbihoeheogkaaDoor
open Go.ChangeShapes Go.WideShapes Go.ChangeAt Go.RowKit
set_option linter.unusedVariables false
set_option maxHeartbeats 1000000
/-- The reduced form of whatever form, the steps, and the code. -/
def reR (a b c : Int) : Fm × Int × Int := if vF a b c = true then (if (rdR a b c).2.2 = true then ((rdR a b c).1, (rdR a b c).2.1, 0) else (zF, 0, 5)) else (zF, 0, 1)
theorem reduceForm_any (a b c : Int) (w : World) :
    Calls Tryd.prog 45 #[.agg #[.int .i64 a, .int .i64 b, .int .i64 c]] w fun e w' => e = .returned (.tuple #[.agg #[.int .i64 ((reR a b c).1.a), .int .i64 ((reR a b c).1.b), .int .i64 ((reR a b c).1.c)], .int .i64 (reR a b c).2.1, .int .i64 (reR a b c).2.2]) ∧ Below w.heap.size w w' := by
  cases hv : vF a b c
  · have HF : Hid (reR a b c = (zF, 0, 1)) := Lib.hid (by simp [reR, hv])
    go_enter Tryd.func45, Tryd.ntmps45
    go_wp2_with fail; refine (validForm_any _ _ _ _).mono ?_; rintro e w1 ⟨rfl, hb1⟩; obtain ⟨hc1, hf1, -, hB1⟩ := bcell hb1; have hz1 := hb1.size; (try simp at hz1); (try have hk1_0 : w.heap.size < w1.heap.size := by omega); (try have hk1_1 : w.heap.size + 1 < w1.heap.size := by omega); (try have hk1_2 : w.heap.size + 1 + 1 < w1.heap.size := by omega); (try have hk1_3 : w.heap.size + 1 + 1 + 1 < w1.heap.size := by omega); (try have hk1_4 : wr.heap.size < w1.heap.size := by omega); (try have hk1_5 : wr.heap.size + 1 < w1.heap.size := by omega)
    go_wp2_with fail
    apply body_row12 (w.heap.size + 1) 25 Tryd.results45 Tryd.underlying25 rfl rfl rfl; (case q => simp (disch := (first | omega | (simp; done) | (simp; omega))) [*]; try rfl); (case hi => kernel_rfl)
    exact ⟨by rw [HF.out]; simp [zF], (by repeat' (first | (with_reducible exact Below.refl _ _) | (with_reducible assumption) | (with_reducible refine Below.setCell ?_ ?_ _) | (with_reducible refine Below.alloc ?_ ?_ _) | (with_reducible refine Below.drew ?_) | (with_reducible refine below_drewN ?_ _) | (with_reducible refine Below.trans ?_ (Below.mono (by with_reducible assumption) ?_)) | go_size | (simp at *; omega)))⟩
  · have hm : muF ⟨a, b, c⟩ ≤ 10002 := mu_le (vF_in hv).2.2
    have HR : Hid (rdF (10002 + 1) ⟨a, b, c⟩ 0 = rdR a b c) := Lib.hid rfl
    have HQ : Hid (reR a b c = if (rdR a b c).2.2 = true then ((rdR a b c).1, (rdR a b c).2.1, 0) else (zF, 0, 5)) := Lib.hid (by simp [reR, hv])
    have HV := Lib.hid hv
    generalize rdR a b c = R at *
    generalize reR a b c = Q at *
    go_enter Tryd.func45, Tryd.ntmps45
    go_wp2_with fail; refine (validForm_any _ _ _ _).mono ?_; rintro e w1 ⟨rfl, hb1⟩; obtain ⟨hc1, hf1, -, hB1⟩ := bcell hb1; have hz1 := hb1.size; (try simp at hz1); (try have hk1_0 : w.heap.size < w1.heap.size := by omega); (try have hk1_1 : w.heap.size + 1 < w1.heap.size := by omega); (try have hk1_2 : w.heap.size + 1 + 1 < w1.heap.size := by omega); (try have hk1_3 : w.heap.size + 1 + 1 + 1 < w1.heap.size := by omega); (try have hk1_4 : wr.heap.size < w1.heap.size := by omega); (try have hk1_5 : wr.heap.size + 1 < w1.heap.size := by omega)
    go_wp2_with fail
    clear hv
    go_loopg [5] 10002 (fun k u wr => ∃ (f : Fm) (n : Int), u = .int .i64 n ∧ 0 ≤ n ∧ n + k ≤ 10002 ∧ vF f.a f.b f.c = true ∧ muF f ≤ k ∧ Hid (rdF (k + 1) f n = R) ∧
      heapAt wr w.heap.size = some (.cells #[.int .i64 f.a, .int .i64 f.b, .int .i64 f.c] 25 (0, 0)) ∧ heapAt wr (w.heap.size + 1) = some (.cells #[.int .i64 0, .int .i64 0, .int .i64 0] 25 (0, 0)) ∧ Below w.heap.size w wr)
    case atStart => exact ⟨⟨a, b, c⟩, 0, rfl, by omega, by omega, HV.out, hm, HR, (by simp (disch := (first | omega | (simp; done) | (simp; omega))) [*]), (by simp (disch := (first | omega | (simp; done) | (simp; omega))) [*]), (by repeat' (first | (with_reducible exact Below.refl _ _) | (with_reducible assumption) | (with_reducible refine Below.setCell ?_ ?_ _) | (with_reducible refine Below.alloc ?_ ?_ _) | (with_reducible refine Below.drew ?_) | (with_reducible refine below_drewN ?_ _) | (with_reducible refine Below.trans ?_ (Below.mono (by with_reducible assumption) ?_)) | go_size | (simp at *; omega)))⟩
    case round =>
      obtain ⟨⟨x, y, z⟩, n, rfl, n0, n1, hv, hmu, HR, hx0, hx1, hbel⟩ := hrel
      obtain ⟨a1, b1, c1⟩ := vF_in hv
      have h0 := vF_c hv
      have B0 := blk3 hx0
      have B1 := blk3 hx1
      obtain ⟨p0, p1, p2, p3, p4, p5, p6⟩ := B0
      obtain ⟨q0, q1, q2, q3, q4, q5, q6⟩ := B1
      clear hb1 hc1 hf1 hB1 hz1
      cases hr : redF x y z
      · cases hs : stepV x y z
        · have HE : Hid (R = (stepF x y z, n + 1, false)) := Lib.hid (HR.out.symm.trans (rdF_bad hr hs))
          go_wp2_with fail; refine (isReduced_any _ _ _ _ a1 b1 c1).mono ?_; rintro e w1 ⟨rfl, hb1⟩; obtain ⟨hc1, hf1, -, hB1⟩ := bcell hb1; have hz1 := hb1.size; (try simp at hz1); (try have hk1_0 : w.heap.size < w1.heap.size := by omega); (try have hk1_1 : w.heap.size + 1 < w1.heap.size := by omega); (try have hk1_2 : w.heap.size + 1 + 1 < w1.heap.size := by omega); (try have hk1_3 : w.heap.size + 1 + 1 + 1 < w1.heap.size := by omega); (try have hk1_4 : wr.heap.size < w1.heap.size := by omega); (try have hk1_5 : wr.heap.size + 1 < w1.heap.size := by omega)
          go_wp2_with fail; refine (stepForm_any _ _ _ _ a1 b1 c1 h0).mono ?_; rintro e w2 ⟨rfl, hb2⟩; obtain ⟨hc2, hf2, -, hB2⟩ := bcell hb2; have hz2 := hb2.size; (try simp at hz2); (try have hk2_0 : w.heap.size < w2.heap.size := by omega); (try have hk2_1 : w.heap.size + 1 < w2.heap.size := by omega); (try have hk2_2 : w.heap.size + 1 + 1 < w2.heap.size := by omega); (try have hk2_3 : w.heap.size + 1 + 1 + 1 < w2.heap.size := by omega); (try have hk2_4 : wr.heap.size < w2.heap.size := by omega); (try have hk2_5 : wr.heap.size + 1 < w2.heap.size := by omega); (try have hk2_6 : w1.heap.size < w2.heap.size := by omega); (try have hk2_7 : w1.heap.size + 1 < w2.heap.size := by omega)
          go_wp2_with fail
          apply body_row12 (w.heap.size + 1) 25 Tryd.results45 Tryd.underlying25 rfl rfl rfl; (case q => simp (disch := (first | omega | (simp; done) | (simp; omega))) [*]; try rfl); (case hi => kernel_rfl)
          exact ⟨by rw [HQ.out, HE.out]; rfl, (by repeat' (first | (with_reducible exact Below.refl _ _) | (with_reducible assumption) | (with_reducible refine Below.setCell ?_ ?_ _) | (with_reducible refine Below.alloc ?_ ?_ _) | (with_reducible refine Below.drew ?_) | (with_reducible refine below_drewN ?_ _) | (with_reducible refine Below.trans ?_ (Below.mono (by with_reducible assumption) ?_)) | go_size | (simp at *; omega)))⟩
        · have hlt := mu_lt hv hr hs
          obtain ⟨k', rfl⟩ : ∃ k', gk = k' + 1 := ⟨gk - 1, by omega⟩
          have HE : Hid (rdF (k' + 1) (stepF x y z) (n + 1) = R) := Lib.hid ((rdF_step hr hs).symm.trans HR.out)
          have HV := Lib.hid hs
          go_wp2_with fail; refine (isReduced_any _ _ _ _ a1 b1 c1).mono ?_; rintro e w1 ⟨rfl, hb1⟩; obtain ⟨hc1, hf1, -, hB1⟩ := bcell hb1; have hz1 := hb1.size; (try simp at hz1); (try have hk1_0 : w.heap.size < w1.heap.size := by omega); (try have hk1_1 : w.heap.size + 1 < w1.heap.size := by omega); (try have hk1_2 : w.heap.size + 1 + 1 < w1.heap.size := by omega); (try have hk1_3 : w.heap.size + 1 + 1 + 1 < w1.heap.size := by omega); (try have hk1_4 : wr.heap.size < w1.heap.size := by omega); (try have hk1_5 : wr.heap.size + 1 < w1.heap.size := by omega)
          go_wp2_with fail; refine (stepForm_any _ _ _ _ a1 b1 c1 h0).mono ?_; rintro e w2 ⟨rfl, hb2⟩; obtain ⟨hc2, hf2, -, hB2⟩ := bcell hb2; have hz2 := hb2.size; (try simp at hz2); (try have hk2_0 : w.heap.size < w2.heap.size := by omega); (try have hk2_1 : w.heap.size + 1 < w2.heap.size := by omega); (try have hk2_2 : w.heap.size + 1 + 1 < w2.heap.size := by omega); (try have hk2_3 : w.heap.size + 1 + 1 + 1 < w2.heap.size := by omega); (try have hk2_4 : wr.heap.size < w2.heap.size := by omega); (try have hk2_5 : wr.heap.size + 1 < w2.heap.size := by omega); (try have hk2_6 : w1.heap.size < w2.heap.size := by omega); (try have hk2_7 : w1.heap.size + 1 < w2.heap.size := by omega)
          go_wp2_with fail
          go_roundg k'
          case measure => omega
          case rel => exact ⟨stepF x y z, n + 1, rfl, by omega, by omega, HV.out, by omega, HE, by simp [*], by simp [*], (by repeat' (first | (with_reducible exact Below.refl _ _) | (with_reducible assumption) | (with_reducible refine Below.setCell ?_ ?_ _) | (with_reducible refine Below.alloc ?_ ?_ _) | (with_reducible refine Below.drew ?_) | (with_reducible refine below_drewN ?_ _) | (with_reducible refine Below.trans ?_ (Below.mono (by with_reducible assumption) ?_)) | go_size | (simp at *; omega)))⟩
      · have HE : Hid (R = (⟨x, y, z⟩, n, true)) := Lib.hid (HR.out.symm.trans (rdF_done hr))
        go_wp2_with fail; refine (isReduced_any _ _ _ _ a1 b1 c1).mono ?_; rintro e w1 ⟨rfl, hb1⟩; obtain ⟨hc1, hf1, -, hB1⟩ := bcell hb1; have hz1 := hb1.size; (try simp at hz1); (try have hk1_0 : w.heap.size < w1.heap.size := by omega); (try have hk1_1 : w.heap.size + 1 < w1.heap.size := by omega); (try have hk1_2 : w.heap.size + 1 + 1 < w1.heap.size := by omega); (try have hk1_3 : w.heap.size + 1 + 1 + 1 < w1.heap.size := by omega); (try have hk1_4 : wr.heap.size < w1.heap.size := by omega); (try have hk1_5 : wr.heap.size + 1 < w1.heap.size := by omega)
        go_wp2_with fail
        apply body_row12 (w.heap.size + 1) 25 Tryd.results45 Tryd.underlying25 rfl rfl rfl; (case q => simp (disch := (first | omega | (simp; done) | (simp; omega))) [*]; try rfl); (case hi => kernel_rfl)
        exact ⟨by rw [HQ.out, HE.out]; rfl, (by repeat' (first | (with_reducible exact Below.refl _ _) | (with_reducible assumption) | (with_reducible refine Below.setCell ?_ ?_ _) | (with_reducible refine Below.alloc ?_ ?_ _) | (with_reducible refine Below.drew ?_) | (with_reducible refine below_drewN ?_ _) | (with_reducible refine Below.trans ?_ (Below.mono (by with_reducible assumption) ?_)) | go_size | (simp at *; omega)))⟩
end Go.Proofs.YtolbihoeheogkaaDoor
