/- Quadratic forms: which are reduced. -/
import Derived.Test.YtodbmnbahldabaaDoorFormC
namespace Go.Proofs.YtodbmnbahldabaaDoor
open Go.ChangeShapes Go.WideShapes Go.ChangeAt Go.RowKit
set_option linter.unusedVariables false
set_option maxHeartbeats 1000000
/-- A reduced form, by its discriminant d. -/
def redD (a b c d : Int) : Bool :=
  if d < 0 then decide (ab b ≤ a) && (decide (a ≤ c) && (decide (0 ≤ b) || (decide (ab b < a) && decide (a < c))))
  else decide (0 < b) && (decide (b ≤ rt d) && (decide (rt d - b < 2 * ab a) && decide (2 * ab a ≤ rt d + b)))
def redF (a b c : Int) : Bool := redD a b c (dF a b c)
theorem dF_range {a b c : Int} (ha : -10000 ≤ a ∧ a ≤ 10000) (hb : -10000 ≤ b ∧ b ≤ 10000) (hc : -10000 ≤ c ∧ c ≤ 10000) : -500000000 ≤ dF a b c ∧ dF a b c ≤ 500000000 := by
  have := dF_bounds ha hb hc
  unfold dF
  omega
/-- What decides a reduced form of a discriminant below nought. -/
theorem redD_neg {a b c d : Int} (hd : d < 0) : redD a b c d = (decide (ab b ≤ a) && (decide (a ≤ c) && (decide (0 ≤ b) || (decide (ab b < a) && decide (a < c))))) := by
  unfold redD
  rw [if_pos hd]
theorem redD_pos {a b c d : Int} (hd : ¬ d < 0) : redD a b c d = (decide (0 < b) && (decide (b ≤ rt d) && (decide (rt d - b < 2 * ab a) && decide (2 * ab a ≤ rt d + b)))) := by
  unfold redD
  rw [if_neg hd]
theorem isReduced_any (a b c : Int) (w : World) (ha : -10000 ≤ a ∧ a ≤ 10000) (hb : -10000 ≤ b ∧ b ≤ 10000) (hc : -10000 ≤ c ∧ c ≤ 10000) :
    Calls Tryd.prog 77 #[.agg #[.int .i64 a, .int .i64 b, .int .i64 c]] w fun e w' => e = .returned (.bool (redF a b c)) ∧ Below w.heap.size w w' := by
  have d2 := dF_range ha hb hc
  have n0 := ab_nonneg a
  have n1 := ab_nonneg b
  have n3 : ab a ≤ 10000 ∧ ab b ≤ 10000 := by unfold ab; omega
  by_cases hd : dF a b c < 0
  · have HR : Hid (redF a b c = _) := Lib.hid (redD_neg hd)
    by_cases t1 : ab b ≤ a
    · by_cases t2 : a ≤ c
      · by_cases t3 : 0 ≤ b
        · go_enter Tryd.func77, Tryd.ntmps77
          go_wp2_with fail; refine (disc_any _ _ _ _ ha hb hc).mono ?_; rintro e w1 ⟨rfl, hb1⟩; obtain ⟨hc1, hf1, -, hB1⟩ := bcell hb1; have hz1 := hb1.size; (try simp at hz1); (try have hk1_0 : w.heap.size < w1.heap.size := by omega); (try have hk1_1 : w.heap.size + 1 < w1.heap.size := by omega); (try have hk1_2 : w.heap.size + 1 + 1 < w1.heap.size := by omega); (try have hk1_3 : w.heap.size + 1 + 1 + 1 < w1.heap.size := by omega); (try have hk1_4 : wr.heap.size < w1.heap.size := by omega); (try have hk1_5 : wr.heap.size + 1 < w1.heap.size := by omega)
          go_wp2_with fail
          go_quiet ((first | (go_at_call 62; exact quiet_left (abs_any _ _ (by omega)))))
          go_wp2
          go_ret
          exact ⟨ret_bool (by rw [HR.out]; simp [t1, t2, t3]), (by repeat' (first | (with_reducible exact Below.refl _ _) | (with_reducible assumption) | (with_reducible refine Below.setCell ?_ ?_ _) | (with_reducible refine Below.alloc ?_ ?_ _) | (with_reducible refine Below.drew ?_) | (with_reducible refine below_drewN ?_ _) | (with_reducible refine Below.trans ?_ (Below.mono (by with_reducible assumption) ?_)) | go_size | (simp at *; omega)))⟩
        · by_cases t4 : ab b = a
          · go_enter Tryd.func77, Tryd.ntmps77
            go_wp2_with fail; refine (disc_any _ _ _ _ ha hb hc).mono ?_; rintro e w1 ⟨rfl, hb1⟩; obtain ⟨hc1, hf1, -, hB1⟩ := bcell hb1; have hz1 := hb1.size; (try simp at hz1); (try have hk1_0 : w.heap.size < w1.heap.size := by omega); (try have hk1_1 : w.heap.size + 1 < w1.heap.size := by omega); (try have hk1_2 : w.heap.size + 1 + 1 < w1.heap.size := by omega); (try have hk1_3 : w.heap.size + 1 + 1 + 1 < w1.heap.size := by omega); (try have hk1_4 : wr.heap.size < w1.heap.size := by omega); (try have hk1_5 : wr.heap.size + 1 < w1.heap.size := by omega)
            go_wp2_with fail
            go_quiet ((first | (go_at_call 62; exact quiet_left (abs_any _ _ (by omega)))))
            go_wp2
            go_ret
            exact ⟨ret_bool (by rw [HR.out]; simp [*]; try omega), (by repeat' (first | (with_reducible exact Below.refl _ _) | (with_reducible assumption) | (with_reducible refine Below.setCell ?_ ?_ _) | (with_reducible refine Below.alloc ?_ ?_ _) | (with_reducible refine Below.drew ?_) | (with_reducible refine below_drewN ?_ _) | (with_reducible refine Below.trans ?_ (Below.mono (by with_reducible assumption) ?_)) | go_size | (simp at *; omega)))⟩
          · go_enter Tryd.func77, Tryd.ntmps77
            go_wp2_with fail; refine (disc_any _ _ _ _ ha hb hc).mono ?_; rintro e w1 ⟨rfl, hb1⟩; obtain ⟨hc1, hf1, -, hB1⟩ := bcell hb1; have hz1 := hb1.size; (try simp at hz1); (try have hk1_0 : w.heap.size < w1.heap.size := by omega); (try have hk1_1 : w.heap.size + 1 < w1.heap.size := by omega); (try have hk1_2 : w.heap.size + 1 + 1 < w1.heap.size := by omega); (try have hk1_3 : w.heap.size + 1 + 1 + 1 < w1.heap.size := by omega); (try have hk1_4 : wr.heap.size < w1.heap.size := by omega); (try have hk1_5 : wr.heap.size + 1 < w1.heap.size := by omega)
            go_wp2_with fail
            go_quiet ((first | (go_at_call 62; exact quiet_left (abs_any _ _ (by omega)))))
            go_wp2
            go_ret
            exact ⟨ret_bool (by rw [HR.out]; rw [decide_eq_true t1, decide_eq_true t2, decide_eq_false (by omega : ¬ 0 ≤ b), decide_eq_true (by omega : ab b < a)]; by_cases q : a = c; simp [q]; (have q2 : a < c := by omega); simp [q, q2, t4]), (by repeat' (first | (with_reducible exact Below.refl _ _) | (with_reducible assumption) | (with_reducible refine Below.setCell ?_ ?_ _) | (with_reducible refine Below.alloc ?_ ?_ _) | (with_reducible refine Below.drew ?_) | (with_reducible refine below_drewN ?_ _) | (with_reducible refine Below.trans ?_ (Below.mono (by with_reducible assumption) ?_)) | go_size | (simp at *; omega)))⟩
      · go_enter Tryd.func77, Tryd.ntmps77
        go_wp2_with fail; refine (disc_any _ _ _ _ ha hb hc).mono ?_; rintro e w1 ⟨rfl, hb1⟩; obtain ⟨hc1, hf1, -, hB1⟩ := bcell hb1; have hz1 := hb1.size; (try simp at hz1); (try have hk1_0 : w.heap.size < w1.heap.size := by omega); (try have hk1_1 : w.heap.size + 1 < w1.heap.size := by omega); (try have hk1_2 : w.heap.size + 1 + 1 < w1.heap.size := by omega); (try have hk1_3 : w.heap.size + 1 + 1 + 1 < w1.heap.size := by omega); (try have hk1_4 : wr.heap.size < w1.heap.size := by omega); (try have hk1_5 : wr.heap.size + 1 < w1.heap.size := by omega)
        go_wp2_with fail
        have q : (a ≤ c) = False := eq_false (by omega)
        go_quiet ((first | (go_at_call 62; exact quiet_left (abs_any _ _ (by omega)))))
        go_wp2
        go_ret
        exact ⟨ret_bool (by rw [HR.out]; simp [*]; try omega), (by repeat' (first | (with_reducible exact Below.refl _ _) | (with_reducible assumption) | (with_reducible refine Below.setCell ?_ ?_ _) | (with_reducible refine Below.alloc ?_ ?_ _) | (with_reducible refine Below.drew ?_) | (with_reducible refine below_drewN ?_ _) | (with_reducible refine Below.trans ?_ (Below.mono (by with_reducible assumption) ?_)) | go_size | (simp at *; omega)))⟩
    · go_enter Tryd.func77, Tryd.ntmps77
      go_wp2_with fail; refine (disc_any _ _ _ _ ha hb hc).mono ?_; rintro e w1 ⟨rfl, hb1⟩; obtain ⟨hc1, hf1, -, hB1⟩ := bcell hb1; have hz1 := hb1.size; (try simp at hz1); (try have hk1_0 : w.heap.size < w1.heap.size := by omega); (try have hk1_1 : w.heap.size + 1 < w1.heap.size := by omega); (try have hk1_2 : w.heap.size + 1 + 1 < w1.heap.size := by omega); (try have hk1_3 : w.heap.size + 1 + 1 + 1 < w1.heap.size := by omega); (try have hk1_4 : wr.heap.size < w1.heap.size := by omega); (try have hk1_5 : wr.heap.size + 1 < w1.heap.size := by omega)
      go_wp2_with fail
      have q : (ab b ≤ a) = False := eq_false (by omega)
      go_quiet ((first | (go_at_call 62; exact quiet_left (abs_any _ _ (by omega)))))
      go_wp2
      go_ret
      exact ⟨ret_bool (by rw [HR.out]; simp [*]; try omega), (by repeat' (first | (with_reducible exact Below.refl _ _) | (with_reducible assumption) | (with_reducible refine Below.setCell ?_ ?_ _) | (with_reducible refine Below.alloc ?_ ?_ _) | (with_reducible refine Below.drew ?_) | (with_reducible refine below_drewN ?_ _) | (with_reducible refine Below.trans ?_ (Below.mono (by with_reducible assumption) ?_)) | go_size | (simp at *; omega)))⟩
  · have HR : Hid (redF a b c = _) := Lib.hid (redD_pos hd)
    obtain ⟨r0, r1, r2⟩ := rt_spec (n := dF a b c) (by omega) (by omega)
    have r3 : rt (dF a b c) ≤ 30000 := rt_le (by omega) (by omega) (by omega) (by omega)
    by_cases p1 : 0 < b
    · by_cases p2 : b ≤ rt (dF a b c)
      · by_cases p3 : rt (dF a b c) - b < 2 * ab a
        · go_enter Tryd.func77, Tryd.ntmps77
          go_wp2_with fail; refine (disc_any _ _ _ _ ha hb hc).mono ?_; rintro e w1 ⟨rfl, hb1⟩; obtain ⟨hc1, hf1, -, hB1⟩ := bcell hb1; have hz1 := hb1.size; (try simp at hz1); (try have hk1_0 : w.heap.size < w1.heap.size := by omega); (try have hk1_1 : w.heap.size + 1 < w1.heap.size := by omega); (try have hk1_2 : w.heap.size + 1 + 1 < w1.heap.size := by omega); (try have hk1_3 : w.heap.size + 1 + 1 + 1 < w1.heap.size := by omega); (try have hk1_4 : wr.heap.size < w1.heap.size := by omega); (try have hk1_5 : wr.heap.size + 1 < w1.heap.size := by omega)
          go_wp2_with (go_at_call 57; refine (root_any _ _ (by omega) (by omega)).mono ?_; rintro e w1 ⟨rfl, rfl⟩)
          go_quiet ((first | (go_at_call 62; exact quiet_left (abs_any _ _ (by omega)))))
          go_wp2
          go_ret
          exact ⟨ret_bool (by rw [HR.out]; simp [p1, p2, p3]), (by repeat' (first | (with_reducible exact Below.refl _ _) | (with_reducible assumption) | (with_reducible refine Below.setCell ?_ ?_ _) | (with_reducible refine Below.alloc ?_ ?_ _) | (with_reducible refine Below.drew ?_) | (with_reducible refine below_drewN ?_ _) | (with_reducible refine Below.trans ?_ (Below.mono (by with_reducible assumption) ?_)) | go_size | (simp at *; omega)))⟩
        · go_enter Tryd.func77, Tryd.ntmps77
          go_wp2_with fail; refine (disc_any _ _ _ _ ha hb hc).mono ?_; rintro e w1 ⟨rfl, hb1⟩; obtain ⟨hc1, hf1, -, hB1⟩ := bcell hb1; have hz1 := hb1.size; (try simp at hz1); (try have hk1_0 : w.heap.size < w1.heap.size := by omega); (try have hk1_1 : w.heap.size + 1 < w1.heap.size := by omega); (try have hk1_2 : w.heap.size + 1 + 1 < w1.heap.size := by omega); (try have hk1_3 : w.heap.size + 1 + 1 + 1 < w1.heap.size := by omega); (try have hk1_4 : wr.heap.size < w1.heap.size := by omega); (try have hk1_5 : wr.heap.size + 1 < w1.heap.size := by omega)
          go_wp2_with (go_at_call 57; refine (root_any _ _ (by omega) (by omega)).mono ?_; rintro e w1 ⟨rfl, rfl⟩)
          have q : (rt (dF a b c) - b < 2 * ab a) = False := eq_false (by omega)
          go_quiet ((first | (go_at_call 62; exact quiet_left (abs_any _ _ (by omega)))))
          go_wp2
          go_ret
          exact ⟨ret_bool (by rw [HR.out]; simp [p1, p2, q]), (by repeat' (first | (with_reducible exact Below.refl _ _) | (with_reducible assumption) | (with_reducible refine Below.setCell ?_ ?_ _) | (with_reducible refine Below.alloc ?_ ?_ _) | (with_reducible refine Below.drew ?_) | (with_reducible refine below_drewN ?_ _) | (with_reducible refine Below.trans ?_ (Below.mono (by with_reducible assumption) ?_)) | go_size | (simp at *; omega)))⟩
      · go_enter Tryd.func77, Tryd.ntmps77
        go_wp2_with fail; refine (disc_any _ _ _ _ ha hb hc).mono ?_; rintro e w1 ⟨rfl, hb1⟩; obtain ⟨hc1, hf1, -, hB1⟩ := bcell hb1; have hz1 := hb1.size; (try simp at hz1); (try have hk1_0 : w.heap.size < w1.heap.size := by omega); (try have hk1_1 : w.heap.size + 1 < w1.heap.size := by omega); (try have hk1_2 : w.heap.size + 1 + 1 < w1.heap.size := by omega); (try have hk1_3 : w.heap.size + 1 + 1 + 1 < w1.heap.size := by omega); (try have hk1_4 : wr.heap.size < w1.heap.size := by omega); (try have hk1_5 : wr.heap.size + 1 < w1.heap.size := by omega)
        go_wp2_with (go_at_call 57; refine (root_any _ _ (by omega) (by omega)).mono ?_; rintro e w1 ⟨rfl, rfl⟩)
        have q : (b ≤ rt (dF a b c)) = False := eq_false (by omega)
        go_quiet ((first | (go_at_call 62; exact quiet_left (abs_any _ _ (by omega)))))
        go_wp2
        go_ret
        exact ⟨ret_bool (by rw [HR.out]; simp [q]), (by repeat' (first | (with_reducible exact Below.refl _ _) | (with_reducible assumption) | (with_reducible refine Below.setCell ?_ ?_ _) | (with_reducible refine Below.alloc ?_ ?_ _) | (with_reducible refine Below.drew ?_) | (with_reducible refine below_drewN ?_ _) | (with_reducible refine Below.trans ?_ (Below.mono (by with_reducible assumption) ?_)) | go_size | (simp at *; omega)))⟩
    · go_enter Tryd.func77, Tryd.ntmps77
      go_wp2_with fail; refine (disc_any _ _ _ _ ha hb hc).mono ?_; rintro e w1 ⟨rfl, hb1⟩; obtain ⟨hc1, hf1, -, hB1⟩ := bcell hb1; have hz1 := hb1.size; (try simp at hz1); (try have hk1_0 : w.heap.size < w1.heap.size := by omega); (try have hk1_1 : w.heap.size + 1 < w1.heap.size := by omega); (try have hk1_2 : w.heap.size + 1 + 1 < w1.heap.size := by omega); (try have hk1_3 : w.heap.size + 1 + 1 + 1 < w1.heap.size := by omega); (try have hk1_4 : wr.heap.size < w1.heap.size := by omega); (try have hk1_5 : wr.heap.size + 1 < w1.heap.size := by omega)
      go_wp2_with (go_at_call 57; refine (root_any _ _ (by omega) (by omega)).mono ?_; rintro e w1 ⟨rfl, rfl⟩)
      have q : (0 < b) = False := eq_false (by omega)
      go_quiet ((first | (go_at_call 62; exact quiet_left (abs_any _ _ (by omega)))))
      go_wp2
      go_ret
      exact ⟨ret_bool (by rw [HR.out]; simp [q]), (by repeat' (first | (with_reducible exact Below.refl _ _) | (with_reducible assumption) | (with_reducible refine Below.setCell ?_ ?_ _) | (with_reducible refine Below.alloc ?_ ?_ _) | (with_reducible refine Below.drew ?_) | (with_reducible refine below_drewN ?_ _) | (with_reducible refine Below.trans ?_ (Below.mono (by with_reducible assumption) ?_)) | go_size | (simp at *; omega)))⟩
end Go.Proofs.YtodbmnbahldabaaDoor
