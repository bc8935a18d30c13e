/- Quadratic forms: the next form, the program's own; and the law. -/
import Derived.Test.YtolbihoeheogkaaDoorFormG
import Derived.Deep.RegionHeld3
import Derived.IntWalk
namespace Go.Proofs.YtolbihoeheogkaaDoor
open Go.ChangeShapes Go.WideShapes Go.ChangeAt Go.RowKit
set_option linter.unusedVariables false
set_option maxHeartbeats 1000000
theorem stC_bound {a b c : Int} (ha : -10000 ≤ a ∧ a ≤ 10000) (hb : -10000 ≤ b ∧ b ≤ 10000) (hcb : -10000 ≤ c ∧ c ≤ 10000) (hc : c ≠ 0) : -350000000 ≤ stC a b c (dF a b c) ∧ stC a b c (dF a b c) ≤ 350000000 := by
  have hd := dF_range ha hb hcb
  obtain ⟨f1, f2, -⟩ := step_facts ha hb hcb hc
  have h1 := mul_f (A := 30000) (B := 30000) (a := stB b c (dF a b c)) (b := stB b c (dF a b c)) (by omega) (by omega)
  generalize stB b c (dF a b c) = B at *
  generalize stC a b c (dF a b c) = C at *
  have e : 4 * c * C = 4 * (c * C) := Int.mul_assoc ..
  have : C.natAbs ≤ (c * C).natAbs := by
    rw [Int.natAbs_mul]
    exact Nat.le_mul_of_pos_left _ (by omega)
  omega
/-- Is the next form plain? -/
def stepV (a b c : Int) : Bool := vF (stepF a b c).a (stepF a b c).b (stepF a b c).c
theorem stepForm_any (a b c : Int) (w : World) (ha : -10000 ≤ a ∧ a ≤ 10000) (hb : -10000 ≤ b ∧ b ≤ 10000) (hc : -10000 ≤ c ∧ c ≤ 10000) (h0 : c ≠ 0) :
    Calls Tryd.prog 46 #[.agg #[.int .i64 a, .int .i64 b, .int .i64 c]] w fun e w' => e = .returned (.tuple #[.agg #[.int .i64 ((stepF a b c).a), .int .i64 ((stepF a b c).b), .int .i64 ((stepF a b c).c)], .bool (stepV a b c)]) ∧ Below w.heap.size w w' := by
  have hd := dF_range ha hb hc
  obtain ⟨g1, g2, g3, g4⟩ := stB_facts (b := b) (d := dF a b c) h0 (by omega) hc
  obtain ⟨f1, f2, f3, f4, f5, f6⟩ := step_facts ha hb hc h0
  have HS : Hid (stepF a b c = ⟨c, stB b c (dF a b c), stC a b c (dF a b c)⟩) := Lib.hid rfl
  have HV : Hid (stepV a b c = vF c (stB b c (dF a b c)) (stC a b c (dF a b c))) := Lib.hid rfl
  have e1 : hiF c (dF a b c) - (hiF c (dF a b c) + b) % (2 * ab c) = stB b c (dF a b c) := rfl
  obtain ⟨e2, e3⟩ := exact_tdiv (by omega) f2
  have hn : ¬ 4 * c = 0 := by omega
  have hm := Int.emod_nonneg (hiF c (dF a b c) + b) (by omega : 2 * ab c ≠ 0)
  have hm1 := Int.emod_lt_of_pos (hiF c (dF a b c) + b) (by omega : 0 < 2 * ab c)
  have hq : 0 ≤ stB b c (dF a b c) * stB b c (dF a b c) ∧ stB b c (dF a b c) * stB b c (dF a b c) ≤ 900000000 := by
    have h1 := mul_f (A := 30000) (B := 30000) (a := stB b c (dF a b c)) (b := stB b c (dF a b c)) (by omega) (by omega)
    refine ⟨?_, by omega⟩
    rcases Int.lt_or_le (stB b c (dF a b c)) 0 with h | h
    · exact Int.mul_nonneg_of_nonpos_of_nonpos (by omega) (by omega)
    · exact Int.mul_nonneg h h
  have hC := stC_bound ha hb hc h0
  clear f2 g4 f3 f4 f5 f6
  generalize stB b c (dF a b c) = B at *
  generalize stC a b c (dF a b c) = C at *
  rcases hiF_cases c (dF a b c) with ⟨t1, t2⟩ | ⟨t1, t2, t3⟩ | ⟨t1, t2, t3⟩
  · rw [t2] at e1 g2 g3 hm hm1
    clear t2
    have t1' : (0 < dF a b c) = False := eq_false t1
    go_enter Tryd.func46, Tryd.ntmps46
    go_wp2_with fail; refine (disc_any _ _ _ _ ha hb hc).mono ?_; rintro e w1 ⟨rfl, hb1⟩; obtain ⟨hc1, hf1, -, hB1⟩ := bcell hb1; have hz1 := hb1.size; (try simp at hz1); (try have hk1_0 : w.heap.size < w1.heap.size := by omega); (try have hk1_1 : w.heap.size + 1 < w1.heap.size := by omega); (try have hk1_2 : w.heap.size + 1 + 1 < w1.heap.size := by omega); (try have hk1_3 : w.heap.size + 1 + 1 + 1 < w1.heap.size := by omega); (try have hk1_4 : wr.heap.size < w1.heap.size := by omega); (try have hk1_5 : wr.heap.size + 1 < w1.heap.size := by omega)
    go_wp2_with (first | (go_at_call 43; refine (abs_any _ _ (by omega)).mono ?_; rintro e w1 ⟨rfl, rfl⟩) | (go_at_call 42; refine (root_any _ _ (by omega) (by omega)).mono ?_; rintro e w1 ⟨rfl, rfl⟩))
    go_quiet ((first | (go_at_call 43; exact quiet_left (abs_any _ _ (by omega))) | (go_at_call 41; exact quiet_left (floorMod_any _ _ _ (by omega) (by omega)))))
    have hb2 := below_drewN hb1 nq; generalize w1.drewN nq = w2 at hb2 ⊢; clear hc1 hf1 hB1 hb1; obtain ⟨hc2, hf2, -, hB2⟩ := bcell hb2; have hz2 := hb2.size; (try simp at hz2); (try have hk2_0 : w.heap.size < w2.heap.size := by omega); (try have hk2_1 : w.heap.size + 1 < w2.heap.size := by omega); (try have hk2_2 : w.heap.size + 1 + 1 < w2.heap.size := by omega); (try have hk2_3 : w.heap.size + 1 + 1 + 1 < w2.heap.size := by omega); (try have hk2_4 : wr.heap.size < w2.heap.size := by omega); (try have hk2_5 : wr.heap.size + 1 < w2.heap.size := by omega)
    go_wp2_with fail
    have v1 : IntKind.i64.wrap (4 * c) = 4 * c := IntWalk.i64_in _ (by omega)
    have v2 : IntKind.i64.wrap (B * B) = B * B := IntWalk.i64_in _ (by omega)
    have v3 : IntKind.i64.wrap (B * B - dF a b c) = B * B - dF a b c := IntWalk.i64_in _ (by omega)
    have v4 : IntKind.i64.wrap C = C := IntWalk.i64_in _ (by omega)
    go_region
    go_wp2_with fail
    go_region_with (go_at_call 17; refine (validForm_any _ _ _ _).mono ?_; rintro e w1 ⟨rfl, hb1⟩; obtain ⟨hc1, hf1, hl1, hB1⟩ := bcell hb1; have hz1 := hb1.size; (try simp at hz1); (try have hk0 : w.heap.size < w1.heap.size := by omega); (try have hk1 : w.heap.size + 1 < w1.heap.size := by omega); (try have hk2 : w.heap.size + 1 + 1 < w1.heap.size := by omega))
    all_goals
      go_wp2_with fail
      apply body_row2 (w.heap.size + 1) 25 Tryd.results46 Tryd.underlying25 rfl rfl rfl; (case q => simp (disch := (first | omega | (simp; done) | (simp; omega))) [*]; try rfl); (case hi => kernel_rfl)
      exact ⟨by rw [HS.out, HV.out]; rfl, (by repeat' (first | (with_reducible exact Below.refl _ _) | (with_reducible assumption) | (with_reducible refine Below.setCell ?_ ?_ _) | (with_reducible refine Below.alloc ?_ ?_ _) | (with_reducible refine Below.drew ?_) | (with_reducible refine below_drewN ?_ _) | (with_reducible refine Below.trans ?_ (Below.mono (by with_reducible assumption) ?_)) | go_size | (simp at *; omega)))⟩
  · have HT := Lib.hid t3
    rw [t3] at e1 g2 g3 hm hm1
    clear t3
    go_enter Tryd.func46, Tryd.ntmps46
    go_wp2_with fail; refine (disc_any _ _ _ _ ha hb hc).mono ?_; rintro e w1 ⟨rfl, hb1⟩; obtain ⟨hc1, hf1, -, hB1⟩ := bcell hb1; have hz1 := hb1.size; (try simp at hz1); (try have hk1_0 : w.heap.size < w1.heap.size := by omega); (try have hk1_1 : w.heap.size + 1 < w1.heap.size := by omega); (try have hk1_2 : w.heap.size + 1 + 1 < w1.heap.size := by omega); (try have hk1_3 : w.heap.size + 1 + 1 + 1 < w1.heap.size := by omega); (try have hk1_4 : wr.heap.size < w1.heap.size := by omega); (try have hk1_5 : wr.heap.size + 1 < w1.heap.size := by omega)
    go_wp2_with (first | (go_at_call 43; refine (abs_any _ _ (by omega)).mono ?_; rintro e w1 ⟨rfl, rfl⟩) | (go_at_call 42; refine (root_any _ _ (by omega) (by omega)).mono ?_; rintro e w1 ⟨rfl, rfl⟩))
    go_quiet ((first | (go_at_call 43; exact quiet_left (abs_any _ _ (by omega))) | (go_at_call 41; exact quiet_left (floorMod_any _ _ _ (by omega) (by omega)))))
    have hb2 := below_drewN hb1 nq; generalize w1.drewN nq = w2 at hb2 ⊢; clear hc1 hf1 hB1 hb1; obtain ⟨hc2, hf2, -, hB2⟩ := bcell hb2; have hz2 := hb2.size; (try simp at hz2); (try have hk2_0 : w.heap.size < w2.heap.size := by omega); (try have hk2_1 : w.heap.size + 1 < w2.heap.size := by omega); (try have hk2_2 : w.heap.size + 1 + 1 < w2.heap.size := by omega); (try have hk2_3 : w.heap.size + 1 + 1 + 1 < w2.heap.size := by omega); (try have hk2_4 : wr.heap.size < w2.heap.size := by omega); (try have hk2_5 : wr.heap.size + 1 < w2.heap.size := by omega)
    go_wp2_with fail
    have v1 : IntKind.i64.wrap (4 * c) = 4 * c := IntWalk.i64_in _ (by omega)
    have v2 : IntKind.i64.wrap (B * B) = B * B := IntWalk.i64_in _ (by omega)
    have v3 : IntKind.i64.wrap (B * B - dF a b c) = B * B - dF a b c := IntWalk.i64_in _ (by omega)
    have v4 : IntKind.i64.wrap C = C := IntWalk.i64_in _ (by omega)
    go_region
    go_wp2_with fail
    go_region_with (go_at_call 17; refine (validForm_any _ _ _ _).mono ?_; rintro e w1 ⟨rfl, hb1⟩; obtain ⟨hc1, hf1, hl1, hB1⟩ := bcell hb1; have hz1 := hb1.size; (try simp at hz1); (try have hk0 : w.heap.size < w1.heap.size := by omega); (try have hk1 : w.heap.size + 1 < w1.heap.size := by omega); (try have hk2 : w.heap.size + 1 + 1 < w1.heap.size := by omega))
    all_goals
      go_wp2_with fail
      apply body_row2 (w.heap.size + 1) 25 Tryd.results46 Tryd.underlying25 rfl rfl rfl; (case q => simp (disch := (first | omega | (simp; done) | (simp; omega))) [*]; try rfl); (case hi => kernel_rfl)
      exact ⟨by rw [HS.out, HV.out]; rfl, (by repeat' (first | (with_reducible exact Below.refl _ _) | (with_reducible assumption) | (with_reducible refine Below.setCell ?_ ?_ _) | (with_reducible refine Below.alloc ?_ ?_ _) | (with_reducible refine Below.drew ?_) | (with_reducible refine below_drewN ?_ _) | (with_reducible refine Below.trans ?_ (Below.mono (by with_reducible assumption) ?_)) | go_size | (simp at *; omega)))⟩
  · rw [t3] at e1 g2 g3 hm hm1
    clear t3
    have t2' : (ab c ≤ rt (dF a b c)) = False := eq_false t2
    go_enter Tryd.func46, Tryd.ntmps46
    go_wp2_with fail; refine (disc_any _ _ _ _ ha hb hc).mono ?_; rintro e w1 ⟨rfl, hb1⟩; obtain ⟨hc1, hf1, -, hB1⟩ := bcell hb1; have hz1 := hb1.size; (try simp at hz1); (try have hk1_0 : w.heap.size < w1.heap.size := by omega); (try have hk1_1 : w.heap.size + 1 < w1.heap.size := by omega); (try have hk1_2 : w.heap.size + 1 + 1 < w1.heap.size := by omega); (try have hk1_3 : w.heap.size + 1 + 1 + 1 < w1.heap.size := by omega); (try have hk1_4 : wr.heap.size < w1.heap.size := by omega); (try have hk1_5 : wr.heap.size + 1 < w1.heap.size := by omega)
    go_wp2_with (first | (go_at_call 43; refine (abs_any _ _ (by omega)).mono ?_; rintro e w1 ⟨rfl, rfl⟩) | (go_at_call 42; refine (root_any _ _ (by omega) (by omega)).mono ?_; rintro e w1 ⟨rfl, rfl⟩))
    go_quiet ((first | (go_at_call 43; exact quiet_left (abs_any _ _ (by omega))) | (go_at_call 41; exact quiet_left (floorMod_any _ _ _ (by omega) (by omega)))))
    have hb2 := below_drewN hb1 nq; generalize w1.drewN nq = w2 at hb2 ⊢; clear hc1 hf1 hB1 hb1; obtain ⟨hc2, hf2, -, hB2⟩ := bcell hb2; have hz2 := hb2.size; (try simp at hz2); (try have hk2_0 : w.heap.size < w2.heap.size := by omega); (try have hk2_1 : w.heap.size + 1 < w2.heap.size := by omega); (try have hk2_2 : w.heap.size + 1 + 1 < w2.heap.size := by omega); (try have hk2_3 : w.heap.size + 1 + 1 + 1 < w2.heap.size := by omega); (try have hk2_4 : wr.heap.size < w2.heap.size := by omega); (try have hk2_5 : wr.heap.size + 1 < w2.heap.size := by omega)
    go_wp2_with fail
    have v1 : IntKind.i64.wrap (4 * c) = 4 * c := IntWalk.i64_in _ (by omega)
    have v2 : IntKind.i64.wrap (B * B) = B * B := IntWalk.i64_in _ (by omega)
    have v3 : IntKind.i64.wrap (B * B - dF a b c) = B * B - dF a b c := IntWalk.i64_in _ (by omega)
    have v4 : IntKind.i64.wrap C = C := IntWalk.i64_in _ (by omega)
    go_region
    go_wp2_with fail
    go_region_with (go_at_call 17; refine (validForm_any _ _ _ _).mono ?_; rintro e w1 ⟨rfl, hb1⟩; obtain ⟨hc1, hf1, hl1, hB1⟩ := bcell hb1; have hz1 := hb1.size; (try simp at hz1); (try have hk0 : w.heap.size < w1.heap.size := by omega); (try have hk1 : w.heap.size + 1 < w1.heap.size := by omega); (try have hk2 : w.heap.size + 1 + 1 < w1.heap.size := by omega))
    all_goals
      go_wp2_with fail
      apply body_row2 (w.heap.size + 1) 25 Tryd.results46 Tryd.underlying25 rfl rfl rfl; (case q => simp (disch := (first | omega | (simp; done) | (simp; omega))) [*]; try rfl); (case hi => kernel_rfl)
      exact ⟨by rw [HS.out, HV.out]; rfl, (by repeat' (first | (with_reducible exact Below.refl _ _) | (with_reducible assumption) | (with_reducible refine Below.setCell ?_ ?_ _) | (with_reducible refine Below.alloc ?_ ?_ _) | (with_reducible refine Below.drew ?_) | (with_reducible refine below_drewN ?_ _) | (with_reducible refine Below.trans ?_ (Below.mono (by with_reducible assumption) ?_)) | go_size | (simp at *; omega)))⟩
def zF : Fm := ⟨0, 0, 0⟩
/-- The next form of whatever form, and the code. -/
def stR (a b c : Int) : Fm × Int := if vF a b c = true then (if stepV a b c = true then (stepF a b c, 0) else (zF, 5)) else (zF, 1)
end Go.Proofs.YtolbihoeheogkaaDoor
