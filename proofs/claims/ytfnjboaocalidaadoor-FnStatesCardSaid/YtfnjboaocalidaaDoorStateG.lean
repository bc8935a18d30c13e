/- Joined states, the walks: both packages. -/
import Derived.Test.YtfnjboaocalidaaDoorStateF
import Derived.Test.YtfnjboaocalidaaDoorMemB
namespace Go.Proofs.YtfnjboaocalidaaDoor
open Go.ChangeShapes Go.WideShapes Go.ChangeAt Go.RowKit
set_option linter.unusedVariables false
set_option maxHeartbeats 4000000
/-- What the walks need of the four joined numbers, under names. -/
theorem join_facts {a b c d e f g h : Int} (v1 : vS a b c d = true) (v2 : vS e f g h = true) : ∃ A B C D G p q r s : Int,
    a * e + b * g = A ∧ a * f + b * h = B ∧ c * e + d * g = C ∧ c * f + d * h = D ∧
    (-2000000000000000000 ≤ A ∧ A ≤ 2000000000000000000) ∧ (-2000000000000000000 ≤ B ∧ B ≤ 2000000000000000000) ∧ (-2000000000000000000 ≤ C ∧ C ≤ 2000000000000000000) ∧ (-2000000000000000000 ≤ D ∧ D ≤ 2000000000000000000) ∧
    gI4 A B C D = G ∧ 1 ≤ G ∧ G ≤ 2000000000000000000 ∧ A.tdiv G = p ∧ B.tdiv G = q ∧ C.tdiv G = r ∧ D.tdiv G = s ∧ joinF a b c d e f g h = plainF p q r s ∧
    (0 ≤ gI A B ∧ gI A B ≤ 2000000000000000000) ∧ (0 ≤ gI C D ∧ gI C D ≤ 2000000000000000000) ∧
    IntKind.i64.wrap p = p ∧ IntKind.i64.wrap q = q ∧ IntKind.i64.wrap r = r ∧ IntKind.i64.wrap s = s := by
  obtain ⟨⟨m1, m1'⟩, ⟨m2, m2'⟩, ⟨m3, m3'⟩, ⟨m4, m4'⟩, ⟨m5, m5'⟩, ⟨m6, m6'⟩, ⟨m7, m7'⟩, ⟨m8, m8'⟩⟩ := join_bounds v1 v2
  have hn := join_nonzero v1 v2
  have hA : -2000000000000000000 ≤ a * e + b * g ∧ a * e + b * g ≤ 2000000000000000000 := by omega
  have hB : -2000000000000000000 ≤ a * f + b * h ∧ a * f + b * h ≤ 2000000000000000000 := by omega
  have hC : -2000000000000000000 ≤ c * e + d * g ∧ c * e + d * g ≤ 2000000000000000000 := by omega
  have hD : -2000000000000000000 ≤ c * f + d * h ∧ c * f + d * h ≤ 2000000000000000000 := by omega
  have hp := gI4_pos hn
  obtain ⟨q1, q2, q3, q4⟩ := join_quot hp hA
  refine ⟨_, _, _, _, _, _, _, _, _, rfl, rfl, rfl, rfl, hA, hB, hC, hD, rfl, hp, (gI4_leB hA hB hC hD).2, rfl, rfl, rfl, rfl, ?_, gI_leB hA hB, gI_leB hC hD, ?_⟩
  · rw [q1, q2, q3, q4]
    simp only [joinF, joinP, v1, v2, and_self, if_true]
  · rw [q1, q2, q3, q4]
    obtain ⟨d1, d2, d3, d4⟩ := gI4_dvd (a := a * e + b * g) (b := a * f + b * h) (c := c * e + d * g) (d := c * f + d * h)
    exact ⟨IntWalk.i64_in _ (by have := div_abs hp d1 (by omega); omega), IntWalk.i64_in _ (by have := div_abs hp d2 (by omega); omega), IntWalk.i64_in _ (by have := div_abs hp d3 (by omega); omega), IntWalk.i64_in _ (by have := div_abs hp d4 (by omega); omega)⟩
theorem joinStates_any (a b c d e f g h : Int) (w : World) :
    Calls Tryd.prog 19 #[.agg #[.int .i64 a, .int .i64 b, .int .i64 c, .int .i64 d], .agg #[.int .i64 e, .int .i64 f, .int .i64 g, .int .i64 h]] w fun e' w' => e' = .returned (.tuple #[.agg #[.int .i64 (joinF a b c d e f g h).1.a, .int .i64 (joinF a b c d e f g h).1.b, .int .i64 (joinF a b c d e f g h).1.c, .int .i64 (joinF a b c d e f g h).1.d], .int .i64 (joinF a b c d e f g h).2]) ∧ Below w.heap.size w w' := by
  cases v1 : vS a b c d
  · have HF : Hid (joinF a b c d e f g h = (zS, 1)) := Lib.hid (by simp [joinF, v1])
    go_enter Tryd.func19, Tryd.ntmps19
    go_wp2_with fail; refine (validState_any _ _ _ _ _).mono ?_; rintro e w1 ⟨rfl, hb1⟩; obtain ⟨hc1, hf1, -, hB1⟩ := bcell hb1; have hz1 := hb1.size; (try simp at hz1); (try have hk1_0 : w.heap.size < w1.heap.size := by omega); (try have hk1_1 : w.heap.size + 1 < w1.heap.size := by omega); (try have hk1_2 : w.heap.size + 1 + 1 < w1.heap.size := by omega); (try have hk1_3 : w.heap.size + 1 + 1 + 1 < w1.heap.size := by omega); (try have hk1_4 : wr.heap.size < w1.heap.size := by omega); (try have hk1_5 : wr.heap.size + 1 < w1.heap.size := by omega)
    go_wp2_with fail
    apply body_row2 (w.heap.size + 1 + 1) 25 Tryd.results19 Tryd.underlying25 rfl rfl rfl; (case q => simp (disch := (first | omega | (simp; done) | (simp; omega))) [*]; try rfl); (case hi => kernel_rfl)
    exact ⟨by rw [HF.out]; simp [zS], (by repeat' (first | (with_reducible exact Below.refl _ _) | (with_reducible assumption) | (with_reducible refine Below.setCell ?_ ?_ _) | (with_reducible refine Below.alloc ?_ ?_ _) | (with_reducible refine Below.drew ?_) | (with_reducible refine below_drewN ?_ _) | (with_reducible refine Below.trans ?_ (Below.mono (by with_reducible assumption) ?_)) | go_size | (simp at *; omega)))⟩
  · cases v2 : vS e f g h
    · have HF : Hid (joinF a b c d e f g h = (zS, 1)) := Lib.hid (by simp [joinF, v2])
      go_enter Tryd.func19, Tryd.ntmps19
      go_wp2_with fail; refine (validState_any _ _ _ _ _).mono ?_; rintro e w1 ⟨rfl, hb1⟩; obtain ⟨hc1, hf1, -, hB1⟩ := bcell hb1; have hz1 := hb1.size; (try simp at hz1); (try have hk1_0 : w.heap.size < w1.heap.size := by omega); (try have hk1_1 : w.heap.size + 1 < w1.heap.size := by omega); (try have hk1_2 : w.heap.size + 1 + 1 < w1.heap.size := by omega); (try have hk1_3 : w.heap.size + 1 + 1 + 1 < w1.heap.size := by omega); (try have hk1_4 : wr.heap.size < w1.heap.size := by omega); (try have hk1_5 : wr.heap.size + 1 < w1.heap.size := by omega)
      go_wp2_with fail; refine (validState_any _ _ _ _ _).mono ?_; rintro e w2 ⟨rfl, hb2⟩; obtain ⟨hc2, hf2, -, hB2⟩ := bcell hb2; have hz2 := hb2.size; (try simp at hz2); (try have hk2_0 : w.heap.size < w2.heap.size := by omega); (try have hk2_1 : w.heap.size + 1 < w2.heap.size := by omega); (try have hk2_2 : w.heap.size + 1 + 1 < w2.heap.size := by omega); (try have hk2_3 : w.heap.size + 1 + 1 + 1 < w2.heap.size := by omega); (try have hk2_4 : wr.heap.size < w2.heap.size := by omega); (try have hk2_5 : wr.heap.size + 1 < w2.heap.size := by omega); (try have hk2_6 : w1.heap.size < w2.heap.size := by omega); (try have hk2_7 : w1.heap.size + 1 < w2.heap.size := by omega)
      go_wp2_with fail
      apply body_row2 (w.heap.size + 1 + 1) 25 Tryd.results19 Tryd.underlying25 rfl rfl rfl; (case q => simp (disch := (first | omega | (simp; done) | (simp; omega))) [*]; try rfl); (case hi => kernel_rfl)
      exact ⟨by rw [HF.out]; simp [zS], (by repeat' (first | (with_reducible exact Below.refl _ _) | (with_reducible assumption) | (with_reducible refine Below.setCell ?_ ?_ _) | (with_reducible refine Below.alloc ?_ ?_ _) | (with_reducible refine Below.drew ?_) | (with_reducible refine below_drewN ?_ _) | (with_reducible refine Below.trans ?_ (Below.mono (by with_reducible assumption) ?_)) | go_size | (simp at *; omega)))⟩
    · obtain ⟨⟨m1, m1'⟩, ⟨m2, m2'⟩, ⟨m3, m3'⟩, ⟨m4, m4'⟩, ⟨m5, m5'⟩, ⟨m6, m6'⟩, ⟨m7, m7'⟩, ⟨m8, m8'⟩⟩ := join_bounds v1 v2
      obtain ⟨A, B, C, D, G, p, q, r, s, eA, eB, eC, eD, bA, bB, bC, bD, eG, g1, g2, e1, e2, e3, e4, hF, b1, b2, w1', w2', w3', w4'⟩ := join_facts v1 v2
      have HF := Lib.hid hF
      have eG' : gI (gI A B) (gI C D) = G := eG
      have gn : (G = 0) = False := by simp; omega
      clear hF eG
      go_enter Tryd.func19, Tryd.ntmps19
      go_wp2_with fail; refine (validState_any _ _ _ _ _).mono ?_; rintro e w1 ⟨rfl, hb1⟩; obtain ⟨hc1, hf1, -, hB1⟩ := bcell hb1; have hz1 := hb1.size; (try simp at hz1); (try have hk1_0 : w.heap.size < w1.heap.size := by omega); (try have hk1_1 : w.heap.size + 1 < w1.heap.size := by omega); (try have hk1_2 : w.heap.size + 1 + 1 < w1.heap.size := by omega); (try have hk1_3 : w.heap.size + 1 + 1 + 1 < w1.heap.size := by omega); (try have hk1_4 : wr.heap.size < w1.heap.size := by omega); (try have hk1_5 : wr.heap.size + 1 < w1.heap.size := by omega)
      go_wp2_with fail; refine (validState_any _ _ _ _ _).mono ?_; rintro e w2 ⟨rfl, hb2⟩; obtain ⟨hc2, hf2, -, hB2⟩ := bcell hb2; have hz2 := hb2.size; (try simp at hz2); (try have hk2_0 : w.heap.size < w2.heap.size := by omega); (try have hk2_1 : w.heap.size + 1 < w2.heap.size := by omega); (try have hk2_2 : w.heap.size + 1 + 1 < w2.heap.size := by omega); (try have hk2_3 : w.heap.size + 1 + 1 + 1 < w2.heap.size := by omega); (try have hk2_4 : wr.heap.size < w2.heap.size := by omega); (try have hk2_5 : wr.heap.size + 1 < w2.heap.size := by omega); (try have hk2_6 : w1.heap.size < w2.heap.size := by omega); (try have hk2_7 : w1.heap.size + 1 < w2.heap.size := by omega)
      go_wp2_with fail
      go_quiet ((go_at_call 35; exact quiet_free (gcd_any _ _ _ (by omega) (by omega) (by omega) (by omega))))
      go_upto_region 5 with fail
      obtain ⟨V, hV⟩ : ∃ V, V = (w2.alloc (.cells #[.int .i64 A, .int .i64 B, .int .i64 C, .int .i64 D] 25)).drewN nq := ⟨_, rfl⟩
      have g0 : heapAt V w2.heap.size = some (.cells #[.int .i64 A, .int .i64 B, .int .i64 C, .int .i64 D] 25 (0, 0)) := by rw [hV]; simp
      have gR : heapAt V (w.heap.size + 1 + 1) = some (.cells #[.int .i64 0, .int .i64 0, .int .i64 0, .int .i64 0] 25 (0, 0)) := by rw [hV]; exact (by simp (disch := (first | omega | (simp; done) | (simp; omega))) [*])
      have gb : Below w.heap.size w V := by rw [hV]; exact (by repeat' (first | (with_reducible exact Below.refl _ _) | (with_reducible assumption) | (with_reducible refine Below.setCell ?_ ?_ _) | (with_reducible refine Below.alloc ?_ ?_ _) | (with_reducible refine Below.drew ?_) | (with_reducible refine below_drewN ?_ _) | (with_reducible refine Below.trans ?_ (Below.mono (by with_reducible assumption) ?_)) | go_size | (simp at *; omega)))
      rw [← hV]
      clear hV hb1 hb2 hc1 hc2 hf1 hf2 hB1 hB2 hz1
      obtain ⟨z0, p1, p2, p3, p4, -⟩ := blk4 g0
      obtain ⟨zR, r1, r2, r3, r4, r5, r6, r7, r8⟩ := blk4 gR
      have hne : w2.heap.size ≠ w.heap.size + 1 + 1 := by omega
      go_region_held3 (fun w' => KeptO (w.heap.size + 1 + 1) V w') (repeat (first | (with_reducible assumption) | (with_reducible exact kepto_refl _ _) | (with_reducible exact kepto_other (by with_reducible assumption) (by first | omega | (simp; done) | (simp; omega))) | (with_reducible refine kepto_alloc ?_) | (with_reducible refine kepto_drew ?_) | (with_reducible refine kepto_set_same ?_) | (with_reducible refine kepto_set ?_ (by first | omega | (simp; done) | (simp; omega))) | (with_reducible refine kepto_call ?_ hb1))) (first | (go_at_call 28; refine (plainState_any _ _ _ _ _).mono ?_; rintro e w1 ⟨rfl, hb1⟩; obtain ⟨hc1, hf1, hl1, hB1⟩ := bcell hb1; (try simp only [World.size_drew, cell_drew, frozen_drew, heapAt_drew] at hc1 hf1 hl1 hB1); have hz1 := hb1.size; (try simp at hz1); (try have hkA := hl1 _ hkA); (try have hkA : _ < w1.heap.size := hz1); (try have hkW : V.heap.size < w1.heap.size := by omega); (try have hk0 : w.heap.size < w1.heap.size := by omega); (try have hk1 : w.heap.size + 1 < w1.heap.size := by omega); (try have hk2 : w.heap.size + 1 + 1 < w1.heap.size := by omega)))
      all_goals
        go_wp2_with fail
        apply body_row2 (w.heap.size + 1 + 1) 25 Tryd.results19 Tryd.underlying25 rfl rfl rfl; (case q => simp (disch := (first | omega | (simp; done) | (simp; omega))) [*]; try rfl); (case hi => kernel_rfl)
        exact ⟨by rw [HF.out]; rfl, (by repeat' (first | (with_reducible exact Below.refl _ _) | (with_reducible assumption) | (with_reducible refine Below.setCell ?_ ?_ _) | (with_reducible refine Below.alloc ?_ ?_ _) | (with_reducible refine Below.drew ?_) | (with_reducible refine below_drewN ?_ _) | (with_reducible refine Below.trans ?_ (Below.mono (by with_reducible assumption) ?_)) | go_size | (simp at *; omega)))⟩
end Go.Proofs.YtfnjboaocalidaaDoor
