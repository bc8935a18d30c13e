/- Terms that are emitted, and joined states; both packages. -/
import Derived.Test.YtfnjboaocalidaaStateC
namespace Go.Proofs.Ytfnjboaocalidaa
open Go.ChangeShapes Go.WideShapes Go.ChangeAt Go.RowKit
set_option linter.unusedVariables false
set_option maxHeartbeats 2000000

theorem emitTerm_any (a b c d : Int) (w : World) :
    Calls Try.prog 29 #[.agg #[.int .i64 a, .int .i64 b, .int .i64 c, .int .i64 d]] w fun e w' => e = .returned (.tuple #[.int .i64 (emitF a b c d).1, .agg #[.int .i64 (emitF a b c d).2.1.a, .int .i64 (emitF a b c d).2.1.b, .int .i64 (emitF a b c d).2.1.c, .int .i64 (emitF a b c d).2.1.d], .int .i64 (emitF a b c d).2.2]) ∧ Below w.heap.size w w' := by
  cases hv : vS a b c d
  · have HF : Hid (emitF a b c d = (0, zS, 1)) := Lib.hid (by simp [emitF, hv])
    go_enter Try.func29, Try.ntmps29
    go_wp2_with fail; refine (validState_any _ _ _ _ _).mono ?_; rintro e w1 ⟨rfl, hb1⟩; obtain ⟨hc1, hf1, -, hB1⟩ := bcell hb1; have hz1 := hb1.size; (try simp at hz1); (try have hk1_0 : w.heap.size < w1.heap.size := by omega); (try have hk1_1 : w.heap.size + 1 < w1.heap.size := by omega); (try have hk1_2 : w.heap.size + 1 + 1 < w1.heap.size := by omega); (try have hk1_3 : w.heap.size + 1 + 1 + 1 < w1.heap.size := by omega); (try have hk1_4 : wr.heap.size < w1.heap.size := by omega); (try have hk1_5 : wr.heap.size + 1 < w1.heap.size := by omega)
    go_wp2_with fail
    apply body_row3 (w.heap.size + 1) 24 Try.results29 Try.underlying24 rfl rfl rfl; (case q => simp (disch := (first | omega | (simp; done) | (simp; omega))) [*]; try rfl); (case hi => kernel_rfl)
    exact ⟨by rw [HF.out]; simp [zS], (by repeat' (first | (with_reducible exact Below.refl _ _) | (with_reducible assumption) | (with_reducible refine Below.setCell ?_ ?_ _) | (with_reducible refine Below.alloc ?_ ?_ _) | (with_reducible refine Below.drew ?_) | (with_reducible refine below_drewN ?_ _) | (with_reducible refine Below.trans ?_ (Below.mono (by with_reducible assumption) ?_)) | go_size | (simp at *; omega)))⟩
  · obtain ⟨h1, h2, h3, h4⟩ := wide_s hv
    cases hk : (knF a b c d).2
    · have HF : Hid (emitF a b c d = (0, zS, 10)) := Lib.hid (by simp [emitF, hv, hk])
      go_enter Try.func29, Try.ntmps29
      go_wp2_with fail; refine (validState_any _ _ _ _ _).mono ?_; rintro e w1 ⟨rfl, hb1⟩; obtain ⟨hc1, hf1, -, hB1⟩ := bcell hb1; have hz1 := hb1.size; (try simp at hz1); (try have hk1_0 : w.heap.size < w1.heap.size := by omega); (try have hk1_1 : w.heap.size + 1 < w1.heap.size := by omega); (try have hk1_2 : w.heap.size + 1 + 1 < w1.heap.size := by omega); (try have hk1_3 : w.heap.size + 1 + 1 + 1 < w1.heap.size := by omega); (try have hk1_4 : wr.heap.size < w1.heap.size := by omega); (try have hk1_5 : wr.heap.size + 1 < w1.heap.size := by omega)
      go_wp2_with fail; refine (known_any _ _ _ _ _ h1 h2 h3 h4).mono ?_; rintro e w2 ⟨rfl, hb2⟩; obtain ⟨hc2, hf2, -, hB2⟩ := bcell hb2; have hz2 := hb2.size; (try simp at hz2); (try have hk2_0 : w.heap.size < w2.heap.size := by omega); (try have hk2_1 : w.heap.size + 1 < w2.heap.size := by omega); (try have hk2_2 : w.heap.size + 1 + 1 < w2.heap.size := by omega); (try have hk2_3 : w.heap.size + 1 + 1 + 1 < w2.heap.size := by omega); (try have hk2_4 : wr.heap.size < w2.heap.size := by omega); (try have hk2_5 : wr.heap.size + 1 < w2.heap.size := by omega); (try have hk2_6 : w1.heap.size < w2.heap.size := by omega); (try have hk2_7 : w1.heap.size + 1 < w2.heap.size := by omega)
      go_wp2_with fail
      apply body_row3 (w.heap.size + 1) 24 Try.results29 Try.underlying24 rfl rfl rfl; (case q => simp (disch := (first | omega | (simp; done) | (simp; omega))) [*]; try rfl); (case hi => kernel_rfl)
      exact ⟨by rw [HF.out]; simp [zS], (by repeat' (first | (with_reducible exact Below.refl _ _) | (with_reducible assumption) | (with_reducible refine Below.setCell ?_ ?_ _) | (with_reducible refine Below.alloc ?_ ?_ _) | (with_reducible refine Below.drew ?_) | (with_reducible refine below_drewN ?_ _) | (with_reducible refine Below.trans ?_ (Below.mono (by with_reducible assumption) ?_)) | go_size | (simp at *; omega)))⟩
    · have hq := knF_bound (b := b) (d := d) h1 hk
      have hvS := emit_vS (q := (knF a b c d).1) hv
      have HF : Hid (emitF a b c d = if bS c d (a - (knF a b c d).1 * c) (b - (knF a b c d).1 * d) = true then ((knF a b c d).1, ⟨c, d, a - (knF a b c d).1 * c, b - (knF a b c d).1 * d⟩, 0) else (0, zS, 5)) := Lib.hid (by simp [emitF, hv, hk])
      generalize hQ : (knF a b c d).1 = q at *
      have m1 := mul_s hq h3
      have m2 := mul_s hq h4
      have HQ := Lib.hid hQ
      clear hQ
      cases hb : bS c d (a - q * c) (b - q * d)
      · have HP : Hid (plainF c d (a - q * c) (b - q * d) = (zS, 5)) := Lib.hid (by simp [plainF, hvS, hb])
        have HV := Lib.hid hvS
        clear hvS
        go_enter Try.func29, Try.ntmps29
        go_wp2_with fail; refine (validState_any _ _ _ _ _).mono ?_; rintro e w1 ⟨rfl, hb1⟩; obtain ⟨hc1, hf1, -, hB1⟩ := bcell hb1; have hz1 := hb1.size; (try simp at hz1); (try have hk1_0 : w.heap.size < w1.heap.size := by omega); (try have hk1_1 : w.heap.size + 1 < w1.heap.size := by omega); (try have hk1_2 : w.heap.size + 1 + 1 < w1.heap.size := by omega); (try have hk1_3 : w.heap.size + 1 + 1 + 1 < w1.heap.size := by omega); (try have hk1_4 : wr.heap.size < w1.heap.size := by omega); (try have hk1_5 : wr.heap.size + 1 < w1.heap.size := by omega)
        go_wp2_with fail; refine (known_any _ _ _ _ _ h1 h2 h3 h4).mono ?_; rintro e w2 ⟨rfl, hb2⟩; obtain ⟨hc2, hf2, -, hB2⟩ := bcell hb2; have hz2 := hb2.size; (try simp at hz2); (try have hk2_0 : w.heap.size < w2.heap.size := by omega); (try have hk2_1 : w.heap.size + 1 < w2.heap.size := by omega); (try have hk2_2 : w.heap.size + 1 + 1 < w2.heap.size := by omega); (try have hk2_3 : w.heap.size + 1 + 1 + 1 < w2.heap.size := by omega); (try have hk2_4 : wr.heap.size < w2.heap.size := by omega); (try have hk2_5 : wr.heap.size + 1 < w2.heap.size := by omega); (try have hk2_6 : w1.heap.size < w2.heap.size := by omega); (try have hk2_7 : w1.heap.size + 1 < w2.heap.size := by omega)
        rw [HQ.out]
        go_wp2_with fail; refine (emitted_any _ _ _ _ _ _ h1 h2 m1 m2).mono ?_; rintro e w3 ⟨rfl, hb3⟩; obtain ⟨hc3, hf3, -, hB3⟩ := bcell hb3; have hz3 := hb3.size; (try simp at hz3); (try have hk3_0 : w.heap.size < w3.heap.size := by omega); (try have hk3_1 : w.heap.size + 1 < w3.heap.size := by omega); (try have hk3_2 : w.heap.size + 1 + 1 < w3.heap.size := by omega); (try have hk3_3 : w.heap.size + 1 + 1 + 1 < w3.heap.size := by omega); (try have hk3_4 : wr.heap.size < w3.heap.size := by omega); (try have hk3_5 : wr.heap.size + 1 < w3.heap.size := by omega); (try have hk3_6 : w1.heap.size < w3.heap.size := by omega); (try have hk3_7 : w1.heap.size + 1 < w3.heap.size := by omega); (try have hk3_8 : w2.heap.size < w3.heap.size := by omega); (try have hk3_9 : w2.heap.size + 1 < w3.heap.size := by omega)
        go_wp2_with fail; refine (plainState_any _ _ _ _ _).mono ?_; rintro e w4 ⟨rfl, hb4⟩; obtain ⟨hc4, hf4, -, hB4⟩ := bcell hb4; have hz4 := hb4.size; (try simp at hz4); (try have hk4_0 : w.heap.size < w4.heap.size := by omega); (try have hk4_1 : w.heap.size + 1 < w4.heap.size := by omega); (try have hk4_2 : w.heap.size + 1 + 1 < w4.heap.size := by omega); (try have hk4_3 : w.heap.size + 1 + 1 + 1 < w4.heap.size := by omega); (try have hk4_4 : wr.heap.size < w4.heap.size := by omega); (try have hk4_5 : wr.heap.size + 1 < w4.heap.size := by omega); (try have hk4_6 : w1.heap.size < w4.heap.size := by omega); (try have hk4_7 : w1.heap.size + 1 < w4.heap.size := by omega); (try have hk4_8 : w2.heap.size < w4.heap.size := by omega); (try have hk4_9 : w2.heap.size + 1 < w4.heap.size := by omega); (try have hk4_10 : w3.heap.size < w4.heap.size := by omega); (try have hk4_11 : w3.heap.size + 1 < w4.heap.size := by omega)
        rw [HP.out]
        simp only [zS]
        go_wp2_with fail
        apply body_row3 (w.heap.size + 1) 24 Try.results29 Try.underlying24 rfl rfl rfl; (case q => simp (disch := (first | omega | (simp; done) | (simp; omega))) [*]; try rfl); (case hi => kernel_rfl)
        exact ⟨by rw [HF.out]; simp [hb, zS], (by repeat' (first | (with_reducible exact Below.refl _ _) | (with_reducible assumption) | (with_reducible refine Below.setCell ?_ ?_ _) | (with_reducible refine Below.alloc ?_ ?_ _) | (with_reducible refine Below.drew ?_) | (with_reducible refine below_drewN ?_ _) | (with_reducible refine Below.trans ?_ (Below.mono (by with_reducible assumption) ?_)) | go_size | (simp at *; omega)))⟩
      · have HP : Hid (plainF c d (a - q * c) (b - q * d) = (⟨c, d, a - q * c, b - q * d⟩, 0)) := Lib.hid (by simp [plainF, hvS, hb])
        have HV := Lib.hid hvS
        clear hvS
        go_enter Try.func29, Try.ntmps29
        go_wp2_with fail; refine (validState_any _ _ _ _ _).mono ?_; rintro e w1 ⟨rfl, hb1⟩; obtain ⟨hc1, hf1, -, hB1⟩ := bcell hb1; have hz1 := hb1.size; (try simp at hz1); (try have hk1_0 : w.heap.size < w1.heap.size := by omega); (try have hk1_1 : w.heap.size + 1 < w1.heap.size := by omega); (try have hk1_2 : w.heap.size + 1 + 1 < w1.heap.size := by omega); (try have hk1_3 : w.heap.size + 1 + 1 + 1 < w1.heap.size := by omega); (try have hk1_4 : wr.heap.size < w1.heap.size := by omega); (try have hk1_5 : wr.heap.size + 1 < w1.heap.size := by omega)
        go_wp2_with fail; refine (known_any _ _ _ _ _ h1 h2 h3 h4).mono ?_; rintro e w2 ⟨rfl, hb2⟩; obtain ⟨hc2, hf2, -, hB2⟩ := bcell hb2; have hz2 := hb2.size; (try simp at hz2); (try have hk2_0 : w.heap.size < w2.heap.size := by omega); (try have hk2_1 : w.heap.size + 1 < w2.heap.size := by omega); (try have hk2_2 : w.heap.size + 1 + 1 < w2.heap.size := by omega); (try have hk2_3 : w.heap.size + 1 + 1 + 1 < w2.heap.size := by omega); (try have hk2_4 : wr.heap.size < w2.heap.size := by omega); (try have hk2_5 : wr.heap.size + 1 < w2.heap.size := by omega); (try have hk2_6 : w1.heap.size < w2.heap.size := by omega); (try have hk2_7 : w1.heap.size + 1 < w2.heap.size := by omega)
        rw [HQ.out]
        go_wp2_with fail; refine (emitted_any _ _ _ _ _ _ h1 h2 m1 m2).mono ?_; rintro e w3 ⟨rfl, hb3⟩; obtain ⟨hc3, hf3, -, hB3⟩ := bcell hb3; have hz3 := hb3.size; (try simp at hz3); (try have hk3_0 : w.heap.size < w3.heap.size := by omega); (try have hk3_1 : w.heap.size + 1 < w3.heap.size := by omega); (try have hk3_2 : w.heap.size + 1 + 1 < w3.heap.size := by omega); (try have hk3_3 : w.heap.size + 1 + 1 + 1 < w3.heap.size := by omega); (try have hk3_4 : wr.heap.size < w3.heap.size := by omega); (try have hk3_5 : wr.heap.size + 1 < w3.heap.size := by omega); (try have hk3_6 : w1.heap.size < w3.heap.size := by omega); (try have hk3_7 : w1.heap.size + 1 < w3.heap.size := by omega); (try have hk3_8 : w2.heap.size < w3.heap.size := by omega); (try have hk3_9 : w2.heap.size + 1 < w3.heap.size := by omega)
        go_wp2_with fail; refine (plainState_any _ _ _ _ _).mono ?_; rintro e w4 ⟨rfl, hb4⟩; obtain ⟨hc4, hf4, -, hB4⟩ := bcell hb4; have hz4 := hb4.size; (try simp at hz4); (try have hk4_0 : w.heap.size < w4.heap.size := by omega); (try have hk4_1 : w.heap.size + 1 < w4.heap.size := by omega); (try have hk4_2 : w.heap.size + 1 + 1 < w4.heap.size := by omega); (try have hk4_3 : w.heap.size + 1 + 1 + 1 < w4.heap.size := by omega); (try have hk4_4 : wr.heap.size < w4.heap.size := by omega); (try have hk4_5 : wr.heap.size + 1 < w4.heap.size := by omega); (try have hk4_6 : w1.heap.size < w4.heap.size := by omega); (try have hk4_7 : w1.heap.size + 1 < w4.heap.size := by omega); (try have hk4_8 : w2.heap.size < w4.heap.size := by omega); (try have hk4_9 : w2.heap.size + 1 < w4.heap.size := by omega); (try have hk4_10 : w3.heap.size < w4.heap.size := by omega); (try have hk4_11 : w3.heap.size + 1 < w4.heap.size := by omega)
        rw [HP.out]
        simp only []
        go_wp2_with fail
        go_region
        all_goals
          go_wp2_with fail
          apply body_row3 (w.heap.size + 1) 24 Try.results29 Try.underlying24 rfl rfl rfl; (case q => simp (disch := (first | omega | (simp; done) | (simp; omega))) [*]; try rfl); (case hi => kernel_rfl)
          exact ⟨by rw [HF.out]; simp [hb], (by repeat' (first | (with_reducible exact Below.refl _ _) | (with_reducible assumption) | (with_reducible refine Below.setCell ?_ ?_ _) | (with_reducible refine Below.alloc ?_ ?_ _) | (with_reducible refine Below.drew ?_) | (with_reducible refine below_drewN ?_ _) | (with_reducible refine Below.trans ?_ (Below.mono (by with_reducible assumption) ?_)) | go_size | (simp at *; omega)))⟩
end Go.Proofs.Ytfnjboaocalidaa
