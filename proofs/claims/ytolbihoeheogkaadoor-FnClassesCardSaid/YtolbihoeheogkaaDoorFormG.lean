/- Quadratic forms: the next form, walked in both packages. -/
import Derived.Test.YtolbihoeheogkaaDoorFormF
namespace Go.Proofs.YtolbihoeheogkaaDoor
open Go.ChangeShapes Go.WideShapes Go.ChangeAt Go.RowKit
set_option linter.unusedVariables false
set_option maxHeartbeats 1000000
theorem hiF_cases (c d : Int) : (¬ 0 < d ∧ hiF c d = ab c) ∨ (0 < d ∧ ab c ≤ rt d ∧ hiF c d = rt d) ∨ (0 < d ∧ ¬ ab c ≤ rt d ∧ hiF c d = ab c) := by
  unfold hiF
  by_cases h1 : 0 < d
  · by_cases h2 : ab c ≤ rt d
    · exact .inr (.inl ⟨h1, h2, by simp [h1, h2]⟩)
    · exact .inr (.inr ⟨h1, h2, by simp [h2]⟩)
  · exact .inl ⟨h1, by simp [h1]⟩
theorem exact_tdiv {x y q : Int} (hy : y ≠ 0) (h : x = y * q) : x.tdiv y = q ∧ x / y = q := by
  subst h
  exact ⟨Int.mul_tdiv_cancel_left _ hy, Int.mul_ediv_cancel_left _ hy⟩
theorem l11Step_any (a b c : Int) (w : World) (ha : -10000 ≤ a ∧ a ≤ 10000) (hb : -10000 ≤ b ∧ b ≤ 10000) (hc : -10000 ≤ c ∧ c ≤ 10000) (h0 : c ≠ 0) :
    Calls Tryd.prog 48 #[.agg #[.int .i64 a, .int .i64 b, .int .i64 c]] w fun e w' => e = .returned (.agg #[.int .i64 ((stepF a b c).a), .int .i64 ((stepF a b c).b), .int .i64 ((stepF a b c).c)]) ∧ Below w.heap.size w w' := by
  have hd := dF_range ha hb hc
  obtain ⟨g1, g2, g3, g4⟩ := stB_facts (b := b) (d := dF a b c) h0 (by omega) hc
  obtain ⟨f1, f2, f3, f4, f5, f6⟩ := step_facts ha hb hc h0
  have HS : Hid (stepF a b c = ⟨c, stB b c (dF a b c), stC a b c (dF a b c)⟩) := Lib.hid rfl
  have HC : Hid (stC a b c (dF a b c) = a - b * stN b c (dF a b c) + c * stN b c (dF a b c) * stN b c (dF a b c)) := Lib.hid rfl
  have e1 : hiF c (dF a b c) - (hiF c (dF a b c) + b) % (2 * ab c) = stB b c (dF a b c) := rfl
  obtain ⟨e2, e3⟩ := exact_tdiv (by omega) g4
  have hn : ¬ 2 * c = 0 := by omega
  have hm := Int.emod_nonneg (hiF c (dF a b c) + b) (by omega : 2 * ab c ≠ 0)
  have hm1 := Int.emod_lt_of_pos (hiF c (dF a b c) + b) (by omega : 0 < 2 * ab c)
  clear f2 g4
  generalize stB b c (dF a b c) = B at *
  generalize stN b c (dF a b c) = n at *
  generalize stC a b c (dF a b c) = C at *
  rcases hiF_cases c (dF a b c) with ⟨t1, t2⟩ | ⟨t1, t2, t3⟩ | ⟨t1, t2, t3⟩
  · rw [t2] at e1 g2 g3 hm hm1
    clear t2
    have t1' : (0 < dF a b c) = False := eq_false t1
    go_enter Tryd.func48, Tryd.ntmps48
    go_wp2_with fail; refine (l11Disc_any _ _ _ _ ha hb hc).mono ?_; rintro e w1 ⟨rfl, hb1⟩; obtain ⟨hc1, hf1, -, hB1⟩ := bcell hb1; have hz1 := hb1.size; (try simp at hz1); (try have hk1_0 : w.heap.size < w1.heap.size := by omega); (try have hk1_1 : w.heap.size + 1 < w1.heap.size := by omega); (try have hk1_2 : w.heap.size + 1 + 1 < w1.heap.size := by omega); (try have hk1_3 : w.heap.size + 1 + 1 + 1 < w1.heap.size := by omega); (try have hk1_4 : wr.heap.size < w1.heap.size := by omega); (try have hk1_5 : wr.heap.size + 1 < w1.heap.size := by omega)
    go_wp2_with (first | (go_at_call 32; refine (size_any _ _ (by omega)).mono ?_; rintro e w1 ⟨rfl, rfl⟩) | (go_at_call 47; refine (l07Root_any _ _ (by omega)).mono ?_; rintro e w1 ⟨rfl, rfl⟩) | (go_at_call 57; refine (l02Mod_any _ _ _ (by omega) (by omega)).mono ?_; rintro e w1 ⟨rfl, rfl⟩))
    apply body_row1 (w.heap.size + 1) 25 Tryd.results48 Tryd.underlying25 rfl rfl rfl; (case q => simp (disch := (first | omega | (simp; done) | (simp; omega))) [*]; try rfl); (case hi => kernel_rfl)
    exact ⟨by rw [HS.out, HC.out], (by repeat' (first | (with_reducible exact Below.refl _ _) | (with_reducible assumption) | (with_reducible refine Below.setCell ?_ ?_ _) | (with_reducible refine Below.alloc ?_ ?_ _) | (with_reducible refine Below.drew ?_) | (with_reducible refine below_drewN ?_ _) | (with_reducible refine Below.trans ?_ (Below.mono (by with_reducible assumption) ?_)) | go_size | (simp at *; omega)))⟩
  · have HT := Lib.hid t3
    rw [t3] at e1 g2 g3 hm hm1
    clear t3
    go_enter Tryd.func48, Tryd.ntmps48
    go_wp2_with fail; refine (l11Disc_any _ _ _ _ ha hb hc).mono ?_; rintro e w1 ⟨rfl, hb1⟩; obtain ⟨hc1, hf1, -, hB1⟩ := bcell hb1; have hz1 := hb1.size; (try simp at hz1); (try have hk1_0 : w.heap.size < w1.heap.size := by omega); (try have hk1_1 : w.heap.size + 1 < w1.heap.size := by omega); (try have hk1_2 : w.heap.size + 1 + 1 < w1.heap.size := by omega); (try have hk1_3 : w.heap.size + 1 + 1 + 1 < w1.heap.size := by omega); (try have hk1_4 : wr.heap.size < w1.heap.size := by omega); (try have hk1_5 : wr.heap.size + 1 < w1.heap.size := by omega)
    go_wp2_with (first | (go_at_call 32; refine (size_any _ _ (by omega)).mono ?_; rintro e w1 ⟨rfl, rfl⟩) | (go_at_call 47; refine (l07Root_any _ _ (by omega)).mono ?_; rintro e w1 ⟨rfl, rfl⟩) | (go_at_call 57; refine (l02Mod_any _ _ _ (by omega) (by omega)).mono ?_; rintro e w1 ⟨rfl, rfl⟩))
    apply body_row1 (w.heap.size + 1) 25 Tryd.results48 Tryd.underlying25 rfl rfl rfl; (case q => simp (disch := (first | omega | (simp; done) | (simp; omega))) [*]; try rfl); (case hi => kernel_rfl)
    exact ⟨by rw [HS.out, HC.out], (by repeat' (first | (with_reducible exact Below.refl _ _) | (with_reducible assumption) | (with_reducible refine Below.setCell ?_ ?_ _) | (with_reducible refine Below.alloc ?_ ?_ _) | (with_reducible refine Below.drew ?_) | (with_reducible refine below_drewN ?_ _) | (with_reducible refine Below.trans ?_ (Below.mono (by with_reducible assumption) ?_)) | go_size | (simp at *; omega)))⟩
  · rw [t3] at e1 g2 g3 hm hm1
    clear t3
    have t2' : (ab c ≤ rt (dF a b c)) = False := eq_false t2
    go_enter Tryd.func48, Tryd.ntmps48
    go_wp2_with fail; refine (l11Disc_any _ _ _ _ ha hb hc).mono ?_; rintro e w1 ⟨rfl, hb1⟩; obtain ⟨hc1, hf1, -, hB1⟩ := bcell hb1; have hz1 := hb1.size; (try simp at hz1); (try have hk1_0 : w.heap.size < w1.heap.size := by omega); (try have hk1_1 : w.heap.size + 1 < w1.heap.size := by omega); (try have hk1_2 : w.heap.size + 1 + 1 < w1.heap.size := by omega); (try have hk1_3 : w.heap.size + 1 + 1 + 1 < w1.heap.size := by omega); (try have hk1_4 : wr.heap.size < w1.heap.size := by omega); (try have hk1_5 : wr.heap.size + 1 < w1.heap.size := by omega)
    go_wp2_with (first | (go_at_call 32; refine (size_any _ _ (by omega)).mono ?_; rintro e w1 ⟨rfl, rfl⟩) | (go_at_call 47; refine (l07Root_any _ _ (by omega)).mono ?_; rintro e w1 ⟨rfl, rfl⟩) | (go_at_call 57; refine (l02Mod_any _ _ _ (by omega) (by omega)).mono ?_; rintro e w1 ⟨rfl, rfl⟩))
    apply body_row1 (w.heap.size + 1) 25 Tryd.results48 Tryd.underlying25 rfl rfl rfl; (case q => simp (disch := (first | omega | (simp; done) | (simp; omega))) [*]; try rfl); (case hi => kernel_rfl)
    exact ⟨by rw [HS.out, HC.out], (by repeat' (first | (with_reducible exact Below.refl _ _) | (with_reducible assumption) | (with_reducible refine Below.setCell ?_ ?_ _) | (with_reducible refine Below.alloc ?_ ?_ _) | (with_reducible refine Below.drew ?_) | (with_reducible refine below_drewN ?_ _) | (with_reducible refine Below.trans ?_ (Below.mono (by with_reducible assumption) ?_)) | go_size | (simp at *; omega)))⟩
end Go.Proofs.YtolbihoeheogkaaDoor
