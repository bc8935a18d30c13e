/- The walk of the law FnExactDoubleAt: two statements that draw their order, cut around. -/
import Derived.Test.YtfnjboaocalidaaAggs
import Derived.Test.YtfnjboaocalidaaDoubleEs
import Derived.Test.YtfnjboaocalidaaDoubleEi
namespace Go.Proofs.Ytfnjboaocalidaa
open Go.ChangeShapes Go.WideShapes Go.ChangeAt Go.RowKit
set_option linter.unusedVariables false
set_option maxHeartbeats 8000000
theorem walk_FnExactDoubleAt (a b c d e f i h : Int) (w_a : (Lit.int .i64 a).wf = true) (w_b : (Lit.int .i64 b).wf = true) (w_c : (Lit.int .i64 c).wf = true) (w_d : (Lit.int .i64 d).wf = true) (w_e : (Lit.int .i64 e).wf = true) (w_f : (Lit.int .i64 f).wf = true) (w_i : (Lit.int .i64 i).wf = true) (w_h : (Lit.int .i64 h).wf = true) (xn xd : Int) (w_xn : (Lit.int .i64 xn).wf = true) (w_xd : (Lit.int .i64 xd).wf = true) (yn yd : Int) (w_yn : (Lit.int .i64 yn).wf = true) (w_yd : (Lit.int .i64 yd).wf = true) (w : World) :
    Calls Try.prog 9 #[.agg #[.int .i64 a, .int .i64 b, .int .i64 c, .int .i64 d, .int .i64 e, .int .i64 f, .int .i64 i, .int .i64 h], .agg #[.int .i64 xn, .int .i64 xd], .agg #[.int .i64 yn, .int .i64 yd]] w fun e' w' => e' = .returned (.bool true) ∧ Below w.heap.size w w' := by
  have bx1 := bounds_i64 w_xn
  have bx2 := bounds_i64 w_xd
  have by1 := bounds_i64 w_yn
  have by2 := bounds_i64 w_yd
  clear w_a w_b w_c w_d w_e w_f w_i w_h w_xn w_xd w_yn w_yd
  go_enter Try.func9, Try.ntmps9
  go_upto_region 1 with fail
  obtain ⟨W, hW⟩ : ∃ W, W = (((w.alloc (.cells #[.int .i64 a, .int .i64 b, .int .i64 c, .int .i64 d, .int .i64 e, .int .i64 f, .int .i64 i, .int .i64 h] 31)).alloc (.cells #[.int .i64 xn, .int .i64 xd] 44)).alloc (.cells #[.int .i64 yn, .int .i64 yd] 44)) := ⟨_, rfl⟩
  have g0 : heapAt W (w.heap.size) = some (.cells #[.int .i64 a, .int .i64 b, .int .i64 c, .int .i64 d, .int .i64 e, .int .i64 f, .int .i64 i, .int .i64 h] 31 (0, 0)) := by rw [hW]; exact (by simp (disch := (first | omega | (simp; done) | (simp; omega))) [*])
  have g1 : heapAt W (w.heap.size + 1) = some (.cells #[.int .i64 xn, .int .i64 xd] 44 (0, 0)) := by rw [hW]; exact (by simp (disch := (first | omega | (simp; done) | (simp; omega))) [*])
  have g2 : heapAt W (w.heap.size + 1 + 1) = some (.cells #[.int .i64 yn, .int .i64 yd] 44 (0, 0)) := by rw [hW]; exact (by simp (disch := (first | omega | (simp; done) | (simp; omega))) [*])
  have gz : w.heap.size + 1 + 1 < W.heap.size := by rw [hW]; simp
  have gb : Below w.heap.size w W := by rw [hW]; exact (by repeat' (first | (with_reducible exact Below.refl _ _) | (with_reducible assumption) | (with_reducible refine Below.setCell ?_ ?_ _) | (with_reducible refine Below.alloc ?_ ?_ _) | (with_reducible refine Below.drew ?_) | (with_reducible refine below_drewN ?_ _) | (with_reducible refine Below.trans ?_ (Below.mono (by with_reducible assumption) ?_)) | go_size | (simp at *; omega)))
  rw [← hW]
  clear hW
  have hk0 : w.heap.size < W.heap.size := by omega
  have hk1 : w.heap.size + 1 < W.heap.size := by omega
  obtain ⟨p1, p2, p3, p4, p5, p6, p7, p8⟩ := cel8 g0
  obtain ⟨p9, p10⟩ := cel2 g1
  obtain ⟨p11, p12⟩ := cel2 g2
  go_cut [7, 8] (fun s7 s8 wx => ∃ g : Nat, s7 = .pointer (some ⟨g, 0, none⟩) ∧ s8 = .int .i64 (datF a b c d e f i h xn xd yn yd).2 ∧ heapAt wx g = some (.cells #[.int .i64 ((datF a b c d e f i h xn xd yn yd).1.n), .int .i64 ((datF a b c d e f i h xn xd yn yd).1.d)] 39 (0, 0)) ∧ W.heap.size ≤ g ∧ Below W.heap.size W wx)
  case first =>
    clear g0 g1 g2
    go_region_held3 (fun w' => Kept W w') (repeat (first | (with_reducible assumption) | (with_reducible exact kept_refl _) | (with_reducible exact kept_other (by with_reducible assumption) (by first | omega | (simp; done) | (simp; omega))) | (with_reducible refine kept_alloc ?_) | (with_reducible refine kept_drew ?_) | (with_reducible refine kept_set ?_ (by first | omega | (simp; done) | (simp; omega))) | (with_reducible refine kept_call ?_ hb1))) (first | (go_at_call 17; refine (toDouble_any _ _ _ _ _ _ _ _ _).mono ?_; rintro e w1 ⟨rfl, hb1⟩; obtain ⟨hc1, hf1, hl1, hB1⟩ := bcell hb1; (try simp only [World.size_drew, cell_drew, frozen_drew, heapAt_drew] at hc1 hf1 hl1 hB1); have hz1 := hb1.size; (try simp at hz1); (try have hkA := hl1 _ hkA); (try have hkA : _ < w1.heap.size := hz1); (try have hkW : W.heap.size < w1.heap.size := by omega); (try have hk0 : w.heap.size < w1.heap.size := by omega); (try have hk1 : w.heap.size + 1 < w1.heap.size := by omega); (try have hk2 : w.heap.size + 1 + 1 < w1.heap.size := by omega)) | (go_at_call 26; refine (toFraction_any _ _ _).mono ?_; rintro e w1 ⟨rfl, hb1⟩; obtain ⟨hc1, hf1, hl1, hB1⟩ := bcell hb1; (try simp only [World.size_drew, cell_drew, frozen_drew, heapAt_drew] at hc1 hf1 hl1 hB1); have hz1 := hb1.size; (try simp at hz1); (try have hkA := hl1 _ hkA); (try have hkA : _ < w1.heap.size := hz1); (try have hkW : W.heap.size < w1.heap.size := by omega); (try have hk0 : w.heap.size < w1.heap.size := by omega); (try have hk1 : w.heap.size + 1 < w1.heap.size := by omega); (try have hk2 : w.heap.size + 1 + 1 < w1.heap.size := by omega)) | (go_at_call 30; refine (sDoubleAt_any _ _ _ _ _ _ _ _ _ _ _ _ _ bx1 bx2 by1 by2).mono ?_; rintro e w1 ⟨rfl, hb1⟩; obtain ⟨hc1, hf1, hl1, hB1⟩ := bcell hb1; (try simp only [World.size_drew, cell_drew, frozen_drew, heapAt_drew] at hc1 hf1 hl1 hB1); have hz1 := hb1.size; (try simp at hz1); (try have hkA := hl1 _ hkA); (try have hkA : _ < w1.heap.size := hz1); (try have hkW : W.heap.size < w1.heap.size := by omega); (try have hk0 : w.heap.size < w1.heap.size := by omega); (try have hk1 : w.heap.size + 1 < w1.heap.size := by omega); (try have hk2 : w.heap.size + 1 + 1 < w1.heap.size := by omega)))
    all_goals
      go_wp2_with fail
      go_meet
      case rel => exact ⟨_, rfl, rfl, by simp (disch := (first | omega | (simp; done) | (simp; omega))) [*], by first | omega | (simp; omega), (by repeat' (first | (with_reducible exact Below.refl _ _) | (with_reducible assumption) | (with_reducible refine Below.setCell ?_ ?_ _) | (with_reducible refine Below.alloc ?_ ?_ _) | (with_reducible refine Below.drew ?_) | (with_reducible refine below_drewN ?_ _) | (with_reducible refine Below.trans ?_ (Below.mono (by with_reducible assumption) ?_)) | go_size | (simp at *; omega)))⟩
  case rest =>
    obtain ⟨W1, rfl⟩ : ∃ W1, W1 = wc := ⟨wc, rfl⟩
    obtain ⟨g, rfl, rfl, hg, hg1, hbw⟩ := hcut
    obtain ⟨hcc, hff, hBB, hHH⟩ := bcell hbw
    clear p1 p2 p3 p4 p5 p6 p7 p8 p9 p10 p11 p12
    have k0 := (hHH _ (by omega)).trans g0
    have k1 := (hHH _ (by omega)).trans g1
    have k2 := (hHH _ (by omega)).trans g2
    have hglt := blk_lt hg
    go_upto_region 2 with fail
    have hj0 : w.heap.size < W1.heap.size := by have := hbw.size; omega
    have hj1 : w.heap.size + 1 < W1.heap.size := by have := hbw.size; omega
    have hj2 : w.heap.size + 1 + 1 < W1.heap.size := by have := hbw.size; omega
    obtain ⟨p1, p2, p3, p4, p5, p6, p7, p8⟩ := cel8 k0
    obtain ⟨p9, p10⟩ := cel2 k1
    obtain ⟨p11, p12⟩ := cel2 k2
    go_cut [9, 10] (fun s9 s10 wy => ∃ g' : Nat, s9 = .pointer (some ⟨g', 0, none⟩) ∧ s10 = .int .i64 (datF a b c d e f i h xn xd yn yd).2 ∧ heapAt wy g' = some (.cells #[.int .i64 ((datF a b c d e f i h xn xd yn yd).1.n), .int .i64 ((datF a b c d e f i h xn xd yn yd).1.d)] 39 (0, 0)) ∧ Below W1.heap.size W1 wy)
    case first =>
      clear g0 g1 g2 k0 k1 k2 hcc hff hBB hHH
      go_region_held3 (fun w' => Kept W1 w') (repeat (first | (with_reducible assumption) | (with_reducible exact kept_refl _) | (with_reducible exact kept_other (by with_reducible assumption) (by first | omega | (simp; done) | (simp; omega))) | (with_reducible refine kept_alloc ?_) | (with_reducible refine kept_drew ?_) | (with_reducible refine kept_set ?_ (by first | omega | (simp; done) | (simp; omega))) | (with_reducible refine kept_call ?_ hb1))) (first | (go_at_call 17; refine (toDouble_any _ _ _ _ _ _ _ _ _).mono ?_; rintro e w1 ⟨rfl, hb1⟩; obtain ⟨hc1, hf1, hl1, hB1⟩ := bcell hb1; (try simp only [World.size_drew, cell_drew, frozen_drew, heapAt_drew] at hc1 hf1 hl1 hB1); have hz1 := hb1.size; (try simp at hz1); (try have hkA := hl1 _ hkA); (try have hkA : _ < w1.heap.size := hz1); (try have hkW : W1.heap.size < w1.heap.size := by omega); (try have hk0 : w.heap.size < w1.heap.size := by omega); (try have hk1 : w.heap.size + 1 < w1.heap.size := by omega); (try have hk2 : w.heap.size + 1 + 1 < w1.heap.size := by omega)) | (go_at_call 26; refine (toFraction_any _ _ _).mono ?_; rintro e w1 ⟨rfl, hb1⟩; obtain ⟨hc1, hf1, hl1, hB1⟩ := bcell hb1; (try simp only [World.size_drew, cell_drew, frozen_drew, heapAt_drew] at hc1 hf1 hl1 hB1); have hz1 := hb1.size; (try simp at hz1); (try have hkA := hl1 _ hkA); (try have hkA : _ < w1.heap.size := hz1); (try have hkW : W1.heap.size < w1.heap.size := by omega); (try have hk0 : w.heap.size < w1.heap.size := by omega); (try have hk1 : w.heap.size + 1 < w1.heap.size := by omega); (try have hk2 : w.heap.size + 1 + 1 < w1.heap.size := by omega)) | (go_at_call 31; refine (doubleAt_any _ _ _ _ _ _ _ _ _ _ _ _ _ bx1 bx2 by1 by2).mono ?_; rintro e w1 ⟨rfl, hb1⟩; obtain ⟨hc1, hf1, hl1, hB1⟩ := bcell hb1; (try simp only [World.size_drew, cell_drew, frozen_drew, heapAt_drew] at hc1 hf1 hl1 hB1); have hz1 := hb1.size; (try simp at hz1); (try have hkA := hl1 _ hkA); (try have hkA : _ < w1.heap.size := hz1); (try have hkW : W1.heap.size < w1.heap.size := by omega); (try have hk0 : w.heap.size < w1.heap.size := by omega); (try have hk1 : w.heap.size + 1 < w1.heap.size := by omega); (try have hk2 : w.heap.size + 1 + 1 < w1.heap.size := by omega)))
      all_goals
        go_wp2_with fail
        go_meet
        case rel => exact ⟨_, rfl, rfl, by simp (disch := (first | omega | (simp; done) | (simp; omega))) [*], (by repeat' (first | (with_reducible exact Below.refl _ _) | (with_reducible assumption) | (with_reducible refine Below.setCell ?_ ?_ _) | (with_reducible refine Below.alloc ?_ ?_ _) | (with_reducible refine Below.drew ?_) | (with_reducible refine below_drewN ?_ _) | (with_reducible refine Below.trans ?_ (Below.mono (by with_reducible assumption) ?_)) | go_size | (simp at *; omega)))⟩
    case rest =>
      obtain ⟨g', rfl, rfl, hg', hbv⟩ := hcut
      obtain ⟨hcc2, -, -, hHH2⟩ := bcell hbv
      have hgy := (hHH2 _ hglt).trans hg
      obtain ⟨q0, q1, q2, q3, q4⟩ := blk2 hgy
      obtain ⟨r0, r1, r2, r3, r4⟩ := blk2 hg'
      have hb' : Below w.heap.size w wc := (gb.trans (hbw.mono (by omega))).trans (hbv.mono (by omega))
      clear hcc hff hBB hHH k0 g0 k1 g1 k2 g2 p1 p2 p3 p4 p5 p6 p7 p8 p9 p10 p11 p12 hcc2 hHH2 hgy hg hg' gb hbw hbv
      go_wp2_with (go_at_call 24; refine (eqFraction_same _ _ _).mono ?_; rintro e w1 ⟨rfl, hb1⟩; obtain ⟨hc1, hf1, -, hB1⟩ := bcell hb1; have hz1 := hb1.size; (try simp at hz1); (try have hk0 : w.heap.size < w1.heap.size := by omega); (try have hk1 : w.heap.size + 1 < w1.heap.size := by omega); (try have hk2 : w.heap.size + 1 + 1 < w1.heap.size := by omega))
      go_ret
      exact ⟨rfl, (by repeat' (first | (with_reducible exact Below.refl _ _) | (with_reducible assumption) | (with_reducible refine Below.setCell ?_ ?_ _) | (with_reducible refine Below.alloc ?_ ?_ _) | (with_reducible refine Below.drew ?_) | (with_reducible refine below_drewN ?_ _) | (with_reducible refine Below.trans ?_ (Below.mono (by with_reducible assumption) ?_)) | go_size | (simp at *; omega)))⟩
end Go.Proofs.Ytfnjboaocalidaa
