/- Feeding terms to a bihomographic function; both packages. -/
import Derived.Test.YtfnjboaocalidaaDoubleB
namespace Go.Proofs.Ytfnjboaocalidaa
open Go.ChangeShapes Go.WideShapes Go.ChangeAt Go.RowKit
set_option linter.unusedVariables false
set_option maxHeartbeats 2000000
def plainD (a b c d e f g h : Int) : Db × Int := if vD a b c d e f g h = true then (⟨a, b, c, d, e, f, g, h⟩, 0) else (zD, 5)
def feed1F (a b c d e f g h t : Int) : Db × Int := if vD a b c d e f g h = true then (if inR t (-1000000000) 1000000000 = true then plainD (a * t + c) (b * t + d) a b (e * t + g) (f * t + h) e f else (zD, 2)) else (zD, 1)
def feed2F (a b c d e f g h t : Int) : Db × Int := if vD a b c d e f g h = true then (if inR t (-1000000000) 1000000000 = true then plainD (a * t + b) a (c * t + d) c (e * t + f) e (g * t + h) g else (zD, 2)) else (zD, 1)
/-- A product that is not too great. -/
def Mid (x : Int) : Prop := -1000000000000000000 ≤ x ∧ x ≤ 1000000000000000000
theorem l14Code_any (a b c d e f g h t : Int) (w : World) (r : Int) (hr : r = if vD a b c d e f g h = true then (if inR t (-1000000000) 1000000000 = true then 0 else 2) else 1) :
    Calls Try.prog 46 #[.agg #[.int .i64 a, .int .i64 b, .int .i64 c, .int .i64 d, .int .i64 e, .int .i64 f, .int .i64 g, .int .i64 h], .int .i64 t] w fun e' w' => e' = .returned (.int .i64 r) ∧ Below w.heap.size w w' := by
  have HR := Lib.hid hr
  clear hr
  cases hv : vD a b c d e f g h
  · go_enter Try.func46, Try.ntmps46
    go_wp2_with (go_at_call 48; refine (l14Ok_any _ _ _ _ _ _ _ _ _).mono ?_; rintro e w1 ⟨rfl, hb1⟩; obtain ⟨hc1, hf1, -, hB1⟩ := bcell hb1; have hz1 := hb1.size; (try simp at hz1); (try have hk0 : w.heap.size < w1.heap.size := by omega); (try have hk1 : w.heap.size + 1 < w1.heap.size := by omega); (try have hk2 : w.heap.size + 1 + 1 < w1.heap.size := by omega))
    go_ret
    exact ⟨ret_int (by rw [HR.out]; simp [hv]), (by repeat' (first | (with_reducible exact Below.refl _ _) | (with_reducible assumption) | (with_reducible refine Below.setCell ?_ ?_ _) | (with_reducible refine Below.alloc ?_ ?_ _) | (with_reducible refine Below.drew ?_) | (with_reducible refine below_drewN ?_ _) | (with_reducible refine Below.trans ?_ (Below.mono (by with_reducible assumption) ?_)) | go_size | (simp at *; omega)))⟩
  · cases ht : inR t (-1000000000) 1000000000
    all_goals
      go_enter Try.func46, Try.ntmps46
      go_wp2_with (first | (go_at_call 48; refine (l14Ok_any _ _ _ _ _ _ _ _ _).mono ?_; rintro e w1 ⟨rfl, hb1⟩; obtain ⟨hc1, hf1, -, hB1⟩ := bcell hb1; have hz1 := hb1.size; (try simp at hz1); (try have hk0 : w.heap.size < w1.heap.size := by omega); (try have hk1 : w.heap.size + 1 < w1.heap.size := by omega); (try have hk2 : w.heap.size + 1 + 1 < w1.heap.size := by omega)) | (go_at_call 78; refine (in_any _ _ _ _).mono ?_; rintro e w1 ⟨rfl, rfl⟩))
      go_ret
      exact ⟨ret_int (by rw [HR.out]; simp [hv, ht]), (by repeat' (first | (with_reducible exact Below.refl _ _) | (with_reducible assumption) | (with_reducible refine Below.setCell ?_ ?_ _) | (with_reducible refine Below.alloc ?_ ?_ _) | (with_reducible refine Below.drew ?_) | (with_reducible refine below_drewN ?_ _) | (with_reducible refine Below.trans ?_ (Below.mono (by with_reducible assumption) ?_)) | go_size | (simp at *; omega)))⟩
theorem fedFirst_any (a b c d e f g h t : Int) (w : World) (hb : bD 1000000000 a b c d e f g h = true) (m0 : Mid (a * t)) (m1 : Mid (b * t)) (m2 : Mid (e * t)) (m3 : Mid (f * t)) :
    Calls Try.prog 50 #[.agg #[.int .i64 a, .int .i64 b, .int .i64 c, .int .i64 d, .int .i64 e, .int .i64 f, .int .i64 g, .int .i64 h], .int .i64 t] w fun e' w' => e' = .returned (.agg #[.int .i64 (a * t + c), .int .i64 (b * t + d), .int .i64 a, .int .i64 b, .int .i64 (e * t + g), .int .i64 (f * t + h), .int .i64 e, .int .i64 f]) ∧ Below w.heap.size w w' := by
  obtain ⟨⟨ha1, ha2⟩, ⟨hb1', hb2'⟩, ⟨hc1', hc2'⟩, ⟨hd1, hd2⟩, ⟨he1, he2⟩, ⟨hf1', hf2'⟩, ⟨hg1, hg2⟩, ⟨hh1, hh2⟩⟩ := bD_iff.1 hb
  obtain ⟨m01, m02⟩ := m0
  obtain ⟨m11, m12⟩ := m1
  obtain ⟨m21, m22⟩ := m2
  obtain ⟨m31, m32⟩ := m3
  clear hb
  go_enter Try.func50, Try.ntmps50
  go_wp2
  go_returns
  exact ⟨rfl, (by repeat' (first | (with_reducible exact Below.refl _ _) | (with_reducible assumption) | (with_reducible refine Below.setCell ?_ ?_ _) | (with_reducible refine Below.alloc ?_ ?_ _) | (with_reducible refine Below.drew ?_) | (with_reducible refine below_drewN ?_ _) | (with_reducible refine Below.trans ?_ (Below.mono (by with_reducible assumption) ?_)) | go_size | (simp at *; omega)))⟩
theorem l14First_any (a b c d e f g h t : Int) (w : World) (hb : bD 1000000000 a b c d e f g h = true) (m0 : Mid (a * t)) (m1 : Mid (b * t)) (m2 : Mid (e * t)) (m3 : Mid (f * t)) :
    Calls Try.prog 47 #[.agg #[.int .i64 a, .int .i64 b, .int .i64 c, .int .i64 d, .int .i64 e, .int .i64 f, .int .i64 g, .int .i64 h], .int .i64 t] w fun e' w' => e' = .returned (.agg #[.int .i64 (a * t + c), .int .i64 (b * t + d), .int .i64 a, .int .i64 b, .int .i64 (e * t + g), .int .i64 (f * t + h), .int .i64 e, .int .i64 f]) ∧ Below w.heap.size w w' := by
  obtain ⟨⟨ha1, ha2⟩, ⟨hb1', hb2'⟩, ⟨hc1', hc2'⟩, ⟨hd1, hd2⟩, ⟨he1, he2⟩, ⟨hf1', hf2'⟩, ⟨hg1, hg2⟩, ⟨hh1, hh2⟩⟩ := bD_iff.1 hb
  obtain ⟨m01, m02⟩ := m0
  obtain ⟨m11, m12⟩ := m1
  obtain ⟨m21, m22⟩ := m2
  obtain ⟨m31, m32⟩ := m3
  clear hb
  go_enter Try.func47, Try.ntmps47
  go_wp2
  go_returns
  exact ⟨rfl, (by repeat' (first | (with_reducible exact Below.refl _ _) | (with_reducible assumption) | (with_reducible refine Below.setCell ?_ ?_ _) | (with_reducible refine Below.alloc ?_ ?_ _) | (with_reducible refine Below.drew ?_) | (with_reducible refine below_drewN ?_ _) | (with_reducible refine Below.trans ?_ (Below.mono (by with_reducible assumption) ?_)) | go_size | (simp at *; omega)))⟩
theorem fedSecond_any (a b c d e f g h t : Int) (w : World) (hb : bD 1000000000 a b c d e f g h = true) (m0 : Mid (a * t)) (m1 : Mid (c * t)) (m2 : Mid (e * t)) (m3 : Mid (g * t)) :
    Calls Try.prog 52 #[.agg #[.int .i64 a, .int .i64 b, .int .i64 c, .int .i64 d, .int .i64 e, .int .i64 f, .int .i64 g, .int .i64 h], .int .i64 t] w fun e' w' => e' = .returned (.agg #[.int .i64 (a * t + b), .int .i64 a, .int .i64 (c * t + d), .int .i64 c, .int .i64 (e * t + f), .int .i64 e, .int .i64 (g * t + h), .int .i64 g]) ∧ Below w.heap.size w w' := by
  obtain ⟨⟨ha1, ha2⟩, ⟨hb1', hb2'⟩, ⟨hc1', hc2'⟩, ⟨hd1, hd2⟩, ⟨he1, he2⟩, ⟨hf1', hf2'⟩, ⟨hg1, hg2⟩, ⟨hh1, hh2⟩⟩ := bD_iff.1 hb
  obtain ⟨m01, m02⟩ := m0
  obtain ⟨m11, m12⟩ := m1
  obtain ⟨m21, m22⟩ := m2
  obtain ⟨m31, m32⟩ := m3
  clear hb
  go_enter Try.func52, Try.ntmps52
  go_wp2
  go_returns
  exact ⟨rfl, (by repeat' (first | (with_reducible exact Below.refl _ _) | (with_reducible assumption) | (with_reducible refine Below.setCell ?_ ?_ _) | (with_reducible refine Below.alloc ?_ ?_ _) | (with_reducible refine Below.drew ?_) | (with_reducible refine below_drewN ?_ _) | (with_reducible refine Below.trans ?_ (Below.mono (by with_reducible assumption) ?_)) | go_size | (simp at *; omega)))⟩
theorem bD_swap {a b c d e f g h : Int} (hb : bD 1000000000 a b c d e f g h = true) : bD 1000000000 a c b d e g f h = true := by
  simp only [bD_iff] at *; omega
theorem l14Second_any (a b c d e f g h t : Int) (w : World) (hb : bD 1000000000 a b c d e f g h = true) (m0 : Mid (a * t)) (m1 : Mid (c * t)) (m2 : Mid (e * t)) (m3 : Mid (g * t)) :
    Calls Try.prog 51 #[.agg #[.int .i64 a, .int .i64 b, .int .i64 c, .int .i64 d, .int .i64 e, .int .i64 f, .int .i64 g, .int .i64 h], .int .i64 t] w fun e' w' => e' = .returned (.agg #[.int .i64 (a * t + b), .int .i64 a, .int .i64 (c * t + d), .int .i64 c, .int .i64 (e * t + f), .int .i64 e, .int .i64 (g * t + h), .int .i64 g]) ∧ Below w.heap.size w w' := by
  have hb' := bD_swap hb
  go_enter Try.func51, Try.ntmps51
  go_wp2_with fail; refine (l14Swap_any _ _ _ _ _ _ _ _ _).mono ?_; rintro e w1 ⟨rfl, hb1⟩; obtain ⟨hc1, hf1, -, hB1⟩ := bcell hb1; have hz1 := hb1.size; (try simp at hz1); (try have hk1_0 : w.heap.size < w1.heap.size := by omega); (try have hk1_1 : w.heap.size + 1 < w1.heap.size := by omega); (try have hk1_2 : w.heap.size + 1 + 1 < w1.heap.size := by omega)
  go_wp2_with fail; refine (l14First_any _ _ _ _ _ _ _ _ _ _ hb' m0 m1 m2 m3).mono ?_; rintro e w2 ⟨rfl, hb2⟩; obtain ⟨hc2, hf2, -, hB2⟩ := bcell hb2; have hz2 := hb2.size; (try simp at hz2); (try have hk2_0 : w.heap.size < w2.heap.size := by omega); (try have hk2_1 : w.heap.size + 1 < w2.heap.size := by omega); (try have hk2_2 : w.heap.size + 1 + 1 < w2.heap.size := by omega); (try have hk2_3 : w1.heap.size < w2.heap.size := by omega); (try have hk2_4 : w1.heap.size + 1 < w2.heap.size := by omega)
  go_wp2_with fail; refine (l14Swap_any _ _ _ _ _ _ _ _ _).mono ?_; rintro e w3 ⟨rfl, hb3⟩; obtain ⟨hc3, hf3, -, hB3⟩ := bcell hb3; have hz3 := hb3.size; (try simp at hz3); (try have hk3_0 : w.heap.size < w3.heap.size := by omega); (try have hk3_1 : w.heap.size + 1 < w3.heap.size := by omega); (try have hk3_2 : w.heap.size + 1 + 1 < w3.heap.size := by omega); (try have hk3_3 : w1.heap.size < w3.heap.size := by omega); (try have hk3_4 : w1.heap.size + 1 < w3.heap.size := by omega); (try have hk3_5 : w2.heap.size < w3.heap.size := by omega); (try have hk3_6 : w2.heap.size + 1 < w3.heap.size := by omega)
  go_wp2_with fail
  apply body_row1 (w.heap.size + 1) 32 Try.results51 Try.underlying32 rfl rfl rfl; (case q => simp (disch := (first | omega | (simp; done) | (simp; omega))) [*]; try rfl); (case hi => kernel_rfl)
  exact ⟨rfl, (by repeat' (first | (with_reducible exact Below.refl _ _) | (with_reducible assumption) | (with_reducible refine Below.setCell ?_ ?_ _) | (with_reducible refine Below.alloc ?_ ?_ _) | (with_reducible refine Below.drew ?_) | (with_reducible refine below_drewN ?_ _) | (with_reducible refine Below.trans ?_ (Below.mono (by with_reducible assumption) ?_)) | go_size | (simp at *; omega)))⟩
theorem feedDouble1_any (a b c d e f g h t : Int) (w : World) :
    Calls Try.prog 49 #[.agg #[.int .i64 a, .int .i64 b, .int .i64 c, .int .i64 d, .int .i64 e, .int .i64 f, .int .i64 g, .int .i64 h], .int .i64 t, .func (.func 50) #[] #[]] w fun e' w' => e' = .returned (.tuple #[.agg #[.int .i64 (feed1F a b c d e f g h t).1.a, .int .i64 (feed1F a b c d e f g h t).1.b, .int .i64 (feed1F a b c d e f g h t).1.c, .int .i64 (feed1F a b c d e f g h t).1.d, .int .i64 (feed1F a b c d e f g h t).1.e, .int .i64 (feed1F a b c d e f g h t).1.f, .int .i64 (feed1F a b c d e f g h t).1.g, .int .i64 (feed1F a b c d e f g h t).1.h], .int .i64 (feed1F a b c d e f g h t).2]) ∧ Below w.heap.size w w' := by
  cases hv : vD a b c d e f g h
  · go_enter Try.func49, Try.ntmps49
    go_wp2_with (go_at_call 62; refine (validDouble_any _ _ _ _ _ _ _ _ _).mono ?_; rintro e w1 ⟨rfl, hb1⟩; obtain ⟨hc1, hf1, -, hB1⟩ := bcell hb1; have hz1 := hb1.size; (try simp at hz1); (try have hk0 : w.heap.size < w1.heap.size := by omega); (try have hk1 : w.heap.size + 1 < w1.heap.size := by omega); (try have hk2 : w.heap.size + 1 + 1 < w1.heap.size := by omega))
    apply body_row2 (w.heap.size + 1) 32 Try.results49 Try.underlying32 rfl rfl rfl; (case q => simp (disch := (first | omega | (simp; done) | (simp; omega))) [*]; try rfl); (case hi => kernel_rfl)
    exact ⟨by simp [feed1F, hv, zD], (by repeat' (first | (with_reducible exact Below.refl _ _) | (with_reducible assumption) | (with_reducible refine Below.setCell ?_ ?_ _) | (with_reducible refine Below.alloc ?_ ?_ _) | (with_reducible refine Below.drew ?_) | (with_reducible refine below_drewN ?_ _) | (with_reducible refine Below.trans ?_ (Below.mono (by with_reducible assumption) ?_)) | go_size | (simp at *; omega)))⟩
  · cases ht : inR t (-1000000000) 1000000000
    · go_enter Try.func49, Try.ntmps49
      go_wp2_with (first | (go_at_call 62; refine (validDouble_any _ _ _ _ _ _ _ _ _).mono ?_; rintro e w1 ⟨rfl, hb1⟩; obtain ⟨hc1, hf1, -, hB1⟩ := bcell hb1; have hz1 := hb1.size; (try simp at hz1); (try have hk0 : w.heap.size < w1.heap.size := by omega); (try have hk1 : w.heap.size + 1 < w1.heap.size := by omega); (try have hk2 : w.heap.size + 1 + 1 < w1.heap.size := by omega)) | (go_at_call 64; refine (within_any _ _ _ _).mono ?_; rintro e w1 ⟨rfl, rfl⟩))
      apply body_row2 (w.heap.size + 1) 32 Try.results49 Try.underlying32 rfl rfl rfl; (case q => simp (disch := (first | omega | (simp; done) | (simp; omega))) [*]; try rfl); (case hi => kernel_rfl)
      exact ⟨by simp [feed1F, hv, ht, zD], (by repeat' (first | (with_reducible exact Below.refl _ _) | (with_reducible assumption) | (with_reducible refine Below.setCell ?_ ?_ _) | (with_reducible refine Below.alloc ?_ ?_ _) | (with_reducible refine Below.drew ?_) | (with_reducible refine below_drewN ?_ _) | (with_reducible refine Below.trans ?_ (Below.mono (by with_reducible assumption) ?_)) | go_size | (simp at *; omega)))⟩
    · have hb := vD_b hv
      have q := bD_iff.1 hb
      have m0 : Mid (a * t) := mul_s q.1 (inR_iff.1 ht)
      have m1 : Mid (b * t) := mul_s q.2.1 (inR_iff.1 ht)
      have m2 : Mid (e * t) := mul_s q.2.2.2.2.1 (inR_iff.1 ht)
      have m3 : Mid (f * t) := mul_s q.2.2.2.2.2.1 (inR_iff.1 ht)
      clear q
      cases h2 : vD (a * t + c) (b * t + d) a b (e * t + g) (f * t + h) e f
      all_goals
        go_enter Try.func49, Try.ntmps49
        go_wp2_with (first | (go_at_call 62; refine (validDouble_any _ _ _ _ _ _ _ _ _).mono ?_; rintro e w1 ⟨rfl, hb1⟩; obtain ⟨hc1, hf1, -, hB1⟩ := bcell hb1; have hz1 := hb1.size; (try simp at hz1); (try have hk0 : w.heap.size < w1.heap.size := by omega); (try have hk1 : w.heap.size + 1 < w1.heap.size := by omega); (try have hk2 : w.heap.size + 1 + 1 < w1.heap.size := by omega)) | (go_at_call 64; refine (within_any _ _ _ _).mono ?_; rintro e w1 ⟨rfl, rfl⟩) | (go_at_call 50; refine (fedFirst_any _ _ _ _ _ _ _ _ _ _ hb m0 m1 m2 m3).mono ?_; rintro e w1 ⟨rfl, hb1⟩; obtain ⟨hc1, hf1, -, hB1⟩ := bcell hb1; have hz1 := hb1.size; (try simp at hz1); (try have hk0 : w.heap.size < w1.heap.size := by omega); (try have hk1 : w.heap.size + 1 < w1.heap.size := by omega); (try have hk2 : w.heap.size + 1 + 1 < w1.heap.size := by omega)))
        apply body_row2 (w.heap.size + 1) 32 Try.results49 Try.underlying32 rfl rfl rfl; (case q => simp (disch := (first | omega | (simp; done) | (simp; omega))) [*]; try rfl); (case hi => kernel_rfl)
        exact ⟨by simp [feed1F, plainD, hv, ht, h2, zD], (by repeat' (first | (with_reducible exact Below.refl _ _) | (with_reducible assumption) | (with_reducible refine Below.setCell ?_ ?_ _) | (with_reducible refine Below.alloc ?_ ?_ _) | (with_reducible refine Below.drew ?_) | (with_reducible refine below_drewN ?_ _) | (with_reducible refine Below.trans ?_ (Below.mono (by with_reducible assumption) ?_)) | go_size | (simp at *; omega)))⟩
theorem iFeed1_any (a b c d e f g h t : Int) (w : World) :
    Calls Try.prog 18 #[.agg #[.int .i64 a, .int .i64 b, .int .i64 c, .int .i64 d, .int .i64 e, .int .i64 f, .int .i64 g, .int .i64 h], .int .i64 t] w fun e' w' => e' = .returned (.tuple #[.agg #[.int .i64 (feed1F a b c d e f g h t).1.a, .int .i64 (feed1F a b c d e f g h t).1.b, .int .i64 (feed1F a b c d e f g h t).1.c, .int .i64 (feed1F a b c d e f g h t).1.d, .int .i64 (feed1F a b c d e f g h t).1.e, .int .i64 (feed1F a b c d e f g h t).1.f, .int .i64 (feed1F a b c d e f g h t).1.g, .int .i64 (feed1F a b c d e f g h t).1.h], .int .i64 (feed1F a b c d e f g h t).2]) ∧ Below w.heap.size w w' := by
  go_enter Try.func18, Try.ntmps18
  go_wp2_with fail; refine (feedDouble1_any _ _ _ _ _ _ _ _ _ _).mono ?_; rintro e w1 ⟨rfl, hb1⟩; obtain ⟨hc1, hf1, -, hB1⟩ := bcell hb1; have hz1 := hb1.size; (try simp at hz1); (try have hk1_0 : w.heap.size < w1.heap.size := by omega); (try have hk1_1 : w.heap.size + 1 < w1.heap.size := by omega); (try have hk1_2 : w.heap.size + 1 + 1 < w1.heap.size := by omega)
  go_wp2_with fail
  apply body_row2 (w.heap.size + 1) 32 Try.results18 Try.underlying32 rfl rfl rfl; (case q => simp (disch := (first | omega | (simp; done) | (simp; omega))) [*]; try rfl); (case hi => kernel_rfl)
  exact ⟨rfl, (by repeat' (first | (with_reducible exact Below.refl _ _) | (with_reducible assumption) | (with_reducible refine Below.setCell ?_ ?_ _) | (with_reducible refine Below.alloc ?_ ?_ _) | (with_reducible refine Below.drew ?_) | (with_reducible refine below_drewN ?_ _) | (with_reducible refine Below.trans ?_ (Below.mono (by with_reducible assumption) ?_)) | go_size | (simp at *; omega)))⟩
theorem sFeed1_any (a b c d e f g h t : Int) (w : World) :
    Calls Try.prog 16 #[.agg #[.int .i64 a, .int .i64 b, .int .i64 c, .int .i64 d, .int .i64 e, .int .i64 f, .int .i64 g, .int .i64 h], .int .i64 t] w fun e' w' => e' = .returned (.tuple #[.agg #[.int .i64 (feed1F a b c d e f g h t).1.a, .int .i64 (feed1F a b c d e f g h t).1.b, .int .i64 (feed1F a b c d e f g h t).1.c, .int .i64 (feed1F a b c d e f g h t).1.d, .int .i64 (feed1F a b c d e f g h t).1.e, .int .i64 (feed1F a b c d e f g h t).1.f, .int .i64 (feed1F a b c d e f g h t).1.g, .int .i64 (feed1F a b c d e f g h t).1.h], .int .i64 (feed1F a b c d e f g h t).2]) ∧ Below w.heap.size w w' := by
  cases hv : vD a b c d e f g h
  · have hcode : (1 : Int) = if vD a b c d e f g h = true then (if inR t (-1000000000) 1000000000 = true then 0 else 2) else 1 := by simp [hv]
    have HC := Lib.hid hcode
    clear hcode
    go_enter Try.func16, Try.ntmps16
    go_wp2_with fail; refine (l14Code_any _ _ _ _ _ _ _ _ _ _ _ HC.out).mono ?_; rintro e w1 ⟨rfl, hb1⟩; obtain ⟨hc1, hf1, -, hB1⟩ := bcell hb1; have hz1 := hb1.size; (try simp at hz1); (try have hk1_0 : w.heap.size < w1.heap.size := by omega); (try have hk1_1 : w.heap.size + 1 < w1.heap.size := by omega); (try have hk1_2 : w.heap.size + 1 + 1 < w1.heap.size := by omega)
    go_wp2_with fail
    apply body_row2 (w.heap.size + 1) 32 Try.results16 Try.underlying32 rfl rfl rfl; (case q => simp (disch := (first | omega | (simp; done) | (simp; omega))) [*]; try rfl); (case hi => kernel_rfl)
    exact ⟨by simp [feed1F, hv, zD], (by repeat' (first | (with_reducible exact Below.refl _ _) | (with_reducible assumption) | (with_reducible refine Below.setCell ?_ ?_ _) | (with_reducible refine Below.alloc ?_ ?_ _) | (with_reducible refine Below.drew ?_) | (with_reducible refine below_drewN ?_ _) | (with_reducible refine Below.trans ?_ (Below.mono (by with_reducible assumption) ?_)) | go_size | (simp at *; omega)))⟩
  · cases ht : inR t (-1000000000) 1000000000
    · have hcode : (2 : Int) = if vD a b c d e f g h = true then (if inR t (-1000000000) 1000000000 = true then 0 else 2) else 1 := by simp [hv, ht]
      have HC := Lib.hid hcode
      clear hcode
      go_enter Try.func16, Try.ntmps16
      go_wp2_with fail; refine (l14Code_any _ _ _ _ _ _ _ _ _ _ _ HC.out).mono ?_; rintro e w1 ⟨rfl, hb1⟩; obtain ⟨hc1, hf1, -, hB1⟩ := bcell hb1; have hz1 := hb1.size; (try simp at hz1); (try have hk1_0 : w.heap.size < w1.heap.size := by omega); (try have hk1_1 : w.heap.size + 1 < w1.heap.size := by omega); (try have hk1_2 : w.heap.size + 1 + 1 < w1.heap.size := by omega)
      go_wp2_with fail
      apply body_row2 (w.heap.size + 1) 32 Try.results16 Try.underlying32 rfl rfl rfl; (case q => simp (disch := (first | omega | (simp; done) | (simp; omega))) [*]; try rfl); (case hi => kernel_rfl)
      exact ⟨by simp [feed1F, hv, ht, zD], (by repeat' (first | (with_reducible exact Below.refl _ _) | (with_reducible assumption) | (with_reducible refine Below.setCell ?_ ?_ _) | (with_reducible refine Below.alloc ?_ ?_ _) | (with_reducible refine Below.drew ?_) | (with_reducible refine below_drewN ?_ _) | (with_reducible refine Below.trans ?_ (Below.mono (by with_reducible assumption) ?_)) | go_size | (simp at *; omega)))⟩
    · have hcode : (0 : Int) = if vD a b c d e f g h = true then (if inR t (-1000000000) 1000000000 = true then 0 else 2) else 1 := by simp [hv, ht]
      have HC := Lib.hid hcode
      clear hcode
      have hb := vD_b hv
      have q := bD_iff.1 hb
      have m0 : Mid (a * t) := mul_s q.1 (inR_iff.1 ht)
      have m1 : Mid (b * t) := mul_s q.2.1 (inR_iff.1 ht)
      have m2 : Mid (e * t) := mul_s q.2.2.2.2.1 (inR_iff.1 ht)
      have m3 : Mid (f * t) := mul_s q.2.2.2.2.2.1 (inR_iff.1 ht)
      clear q
      cases h2 : vD (a * t + c) (b * t + d) a b (e * t + g) (f * t + h) e f
      all_goals
        go_enter Try.func16, Try.ntmps16
        go_wp2_with fail; refine (l14Code_any _ _ _ _ _ _ _ _ _ _ _ HC.out).mono ?_; rintro e w1 ⟨rfl, hb1⟩; obtain ⟨hc1, hf1, -, hB1⟩ := bcell hb1; have hz1 := hb1.size; (try simp at hz1); (try have hk1_0 : w.heap.size < w1.heap.size := by omega); (try have hk1_1 : w.heap.size + 1 < w1.heap.size := by omega); (try have hk1_2 : w.heap.size + 1 + 1 < w1.heap.size := by omega)
        go_wp2_with fail; refine (l14First_any _ _ _ _ _ _ _ _ _ _ hb m0 m1 m2 m3).mono ?_; rintro e w2 ⟨rfl, hb2⟩; obtain ⟨hc2, hf2, -, hB2⟩ := bcell hb2; have hz2 := hb2.size; (try simp at hz2); (try have hk2_0 : w.heap.size < w2.heap.size := by omega); (try have hk2_1 : w.heap.size + 1 < w2.heap.size := by omega); (try have hk2_2 : w.heap.size + 1 + 1 < w2.heap.size := by omega); (try have hk2_3 : w1.heap.size < w2.heap.size := by omega); (try have hk2_4 : w1.heap.size + 1 < w2.heap.size := by omega)
        go_wp2_with fail; refine (l14Ok_any _ _ _ _ _ _ _ _ _).mono ?_; rintro e w3 ⟨rfl, hb3⟩; obtain ⟨hc3, hf3, -, hB3⟩ := bcell hb3; have hz3 := hb3.size; (try simp at hz3); (try have hk3_0 : w.heap.size < w3.heap.size := by omega); (try have hk3_1 : w.heap.size + 1 < w3.heap.size := by omega); (try have hk3_2 : w.heap.size + 1 + 1 < w3.heap.size := by omega); (try have hk3_3 : w1.heap.size < w3.heap.size := by omega); (try have hk3_4 : w1.heap.size + 1 < w3.heap.size := by omega); (try have hk3_5 : w2.heap.size < w3.heap.size := by omega); (try have hk3_6 : w2.heap.size + 1 < w3.heap.size := by omega)
        go_wp2_with fail
        apply body_row2 (w.heap.size + 1) 32 Try.results16 Try.underlying32 rfl rfl rfl; (case q => simp (disch := (first | omega | (simp; done) | (simp; omega))) [*]; try rfl); (case hi => kernel_rfl)
        exact ⟨by simp [feed1F, plainD, hv, ht, h2, zD], (by repeat' (first | (with_reducible exact Below.refl _ _) | (with_reducible assumption) | (with_reducible refine Below.setCell ?_ ?_ _) | (with_reducible refine Below.alloc ?_ ?_ _) | (with_reducible refine Below.drew ?_) | (with_reducible refine below_drewN ?_ _) | (with_reducible refine Below.trans ?_ (Below.mono (by with_reducible assumption) ?_)) | go_size | (simp at *; omega)))⟩
theorem feedDouble2_any (a b c d e f g h t : Int) (w : World) :
    Calls Try.prog 49 #[.agg #[.int .i64 a, .int .i64 b, .int .i64 c, .int .i64 d, .int .i64 e, .int .i64 f, .int .i64 g, .int .i64 h], .int .i64 t, .func (.func 52) #[] #[]] w fun e' w' => e' = .returned (.tuple #[.agg #[.int .i64 (feed2F a b c d e f g h t).1.a, .int .i64 (feed2F a b c d e f g h t).1.b, .int .i64 (feed2F a b c d e f g h t).1.c, .int .i64 (feed2F a b c d e f g h t).1.d, .int .i64 (feed2F a b c d e f g h t).1.e, .int .i64 (feed2F a b c d e f g h t).1.f, .int .i64 (feed2F a b c d e f g h t).1.g, .int .i64 (feed2F a b c d e f g h t).1.h], .int .i64 (feed2F a b c d e f g h t).2]) ∧ Below w.heap.size w w' := by
  cases hv : vD a b c d e f g h
  · go_enter Try.func49, Try.ntmps49
    go_wp2_with (go_at_call 62; refine (validDouble_any _ _ _ _ _ _ _ _ _).mono ?_; rintro e w1 ⟨rfl, hb1⟩; obtain ⟨hc1, hf1, -, hB1⟩ := bcell hb1; have hz1 := hb1.size; (try simp at hz1); (try have hk0 : w.heap.size < w1.heap.size := by omega); (try have hk1 : w.heap.size + 1 < w1.heap.size := by omega); (try have hk2 : w.heap.size + 1 + 1 < w1.heap.size := by omega))
    apply body_row2 (w.heap.size + 1) 32 Try.results49 Try.underlying32 rfl rfl rfl; (case q => simp (disch := (first | omega | (simp; done) | (simp; omega))) [*]; try rfl); (case hi => kernel_rfl)
    exact ⟨by simp [feed2F, hv, zD], (by repeat' (first | (with_reducible exact Below.refl _ _) | (with_reducible assumption) | (with_reducible refine Below.setCell ?_ ?_ _) | (with_reducible refine Below.alloc ?_ ?_ _) | (with_reducible refine Below.drew ?_) | (with_reducible refine below_drewN ?_ _) | (with_reducible refine Below.trans ?_ (Below.mono (by with_reducible assumption) ?_)) | go_size | (simp at *; omega)))⟩
  · cases ht : inR t (-1000000000) 1000000000
    · go_enter Try.func49, Try.ntmps49
      go_wp2_with (first | (go_at_call 62; refine (validDouble_any _ _ _ _ _ _ _ _ _).mono ?_; rintro e w1 ⟨rfl, hb1⟩; obtain ⟨hc1, hf1, -, hB1⟩ := bcell hb1; have hz1 := hb1.size; (try simp at hz1); (try have hk0 : w.heap.size < w1.heap.size := by omega); (try have hk1 : w.heap.size + 1 < w1.heap.size := by omega); (try have hk2 : w.heap.size + 1 + 1 < w1.heap.size := by omega)) | (go_at_call 64; refine (within_any _ _ _ _).mono ?_; rintro e w1 ⟨rfl, rfl⟩))
      apply body_row2 (w.heap.size + 1) 32 Try.results49 Try.underlying32 rfl rfl rfl; (case q => simp (disch := (first | omega | (simp; done) | (simp; omega))) [*]; try rfl); (case hi => kernel_rfl)
      exact ⟨by simp [feed2F, hv, ht, zD], (by repeat' (first | (with_reducible exact Below.refl _ _) | (with_reducible assumption) | (with_reducible refine Below.setCell ?_ ?_ _) | (with_reducible refine Below.alloc ?_ ?_ _) | (with_reducible refine Below.drew ?_) | (with_reducible refine below_drewN ?_ _) | (with_reducible refine Below.trans ?_ (Below.mono (by with_reducible assumption) ?_)) | go_size | (simp at *; omega)))⟩
    · have hb := vD_b hv
      have q := bD_iff.1 hb
      have m0 : Mid (a * t) := mul_s q.1 (inR_iff.1 ht)
      have m1 : Mid (c * t) := mul_s q.2.2.1 (inR_iff.1 ht)
      have m2 : Mid (e * t) := mul_s q.2.2.2.2.1 (inR_iff.1 ht)
      have m3 : Mid (g * t) := mul_s q.2.2.2.2.2.2.1 (inR_iff.1 ht)
      clear q
      cases h2 : vD (a * t + b) a (c * t + d) c (e * t + f) e (g * t + h) g
      all_goals
        go_enter Try.func49, Try.ntmps49
        go_wp2_with (first | (go_at_call 62; refine (validDouble_any _ _ _ _ _ _ _ _ _).mono ?_; rintro e w1 ⟨rfl, hb1⟩; obtain ⟨hc1, hf1, -, hB1⟩ := bcell hb1; have hz1 := hb1.size; (try simp at hz1); (try have hk0 : w.heap.size < w1.heap.size := by omega); (try have hk1 : w.heap.size + 1 < w1.heap.size := by omega); (try have hk2 : w.heap.size + 1 + 1 < w1.heap.size := by omega)) | (go_at_call 64; refine (within_any _ _ _ _).mono ?_; rintro e w1 ⟨rfl, rfl⟩) | (go_at_call 52; refine (fedSecond_any _ _ _ _ _ _ _ _ _ _ hb m0 m1 m2 m3).mono ?_; rintro e w1 ⟨rfl, hb1⟩; obtain ⟨hc1, hf1, -, hB1⟩ := bcell hb1; have hz1 := hb1.size; (try simp at hz1); (try have hk0 : w.heap.size < w1.heap.size := by omega); (try have hk1 : w.heap.size + 1 < w1.heap.size := by omega); (try have hk2 : w.heap.size + 1 + 1 < w1.heap.size := by omega)))
        apply body_row2 (w.heap.size + 1) 32 Try.results49 Try.underlying32 rfl rfl rfl; (case q => simp (disch := (first | omega | (simp; done) | (simp; omega))) [*]; try rfl); (case hi => kernel_rfl)
        exact ⟨by simp [feed2F, plainD, hv, ht, h2, zD], (by repeat' (first | (with_reducible exact Below.refl _ _) | (with_reducible assumption) | (with_reducible refine Below.setCell ?_ ?_ _) | (with_reducible refine Below.alloc ?_ ?_ _) | (with_reducible refine Below.drew ?_) | (with_reducible refine below_drewN ?_ _) | (with_reducible refine Below.trans ?_ (Below.mono (by with_reducible assumption) ?_)) | go_size | (simp at *; omega)))⟩
theorem iFeed2_any (a b c d e f g h t : Int) (w : World) :
    Calls Try.prog 21 #[.agg #[.int .i64 a, .int .i64 b, .int .i64 c, .int .i64 d, .int .i64 e, .int .i64 f, .int .i64 g, .int .i64 h], .int .i64 t] w fun e' w' => e' = .returned (.tuple #[.agg #[.int .i64 (feed2F a b c d e f g h t).1.a, .int .i64 (feed2F a b c d e f g h t).1.b, .int .i64 (feed2F a b c d e f g h t).1.c, .int .i64 (feed2F a b c d e f g h t).1.d, .int .i64 (feed2F a b c d e f g h t).1.e, .int .i64 (feed2F a b c d e f g h t).1.f, .int .i64 (feed2F a b c d e f g h t).1.g, .int .i64 (feed2F a b c d e f g h t).1.h], .int .i64 (feed2F a b c d e f g h t).2]) ∧ Below w.heap.size w w' := by
  go_enter Try.func21, Try.ntmps21
  go_wp2_with fail; refine (feedDouble2_any _ _ _ _ _ _ _ _ _ _).mono ?_; rintro e w1 ⟨rfl, hb1⟩; obtain ⟨hc1, hf1, -, hB1⟩ := bcell hb1; have hz1 := hb1.size; (try simp at hz1); (try have hk1_0 : w.heap.size < w1.heap.size := by omega); (try have hk1_1 : w.heap.size + 1 < w1.heap.size := by omega); (try have hk1_2 : w.heap.size + 1 + 1 < w1.heap.size := by omega)
  go_wp2_with fail
  apply body_row2 (w.heap.size + 1) 32 Try.results21 Try.underlying32 rfl rfl rfl; (case q => simp (disch := (first | omega | (simp; done) | (simp; omega))) [*]; try rfl); (case hi => kernel_rfl)
  exact ⟨rfl, (by repeat' (first | (with_reducible exact Below.refl _ _) | (with_reducible assumption) | (with_reducible refine Below.setCell ?_ ?_ _) | (with_reducible refine Below.alloc ?_ ?_ _) | (with_reducible refine Below.drew ?_) | (with_reducible refine below_drewN ?_ _) | (with_reducible refine Below.trans ?_ (Below.mono (by with_reducible assumption) ?_)) | go_size | (simp at *; omega)))⟩
theorem sFeed2_any (a b c d e f g h t : Int) (w : World) :
    Calls Try.prog 20 #[.agg #[.int .i64 a, .int .i64 b, .int .i64 c, .int .i64 d, .int .i64 e, .int .i64 f, .int .i64 g, .int .i64 h], .int .i64 t] w fun e' w' => e' = .returned (.tuple #[.agg #[.int .i64 (feed2F a b c d e f g h t).1.a, .int .i64 (feed2F a b c d e f g h t).1.b, .int .i64 (feed2F a b c d e f g h t).1.c, .int .i64 (feed2F a b c d e f g h t).1.d, .int .i64 (feed2F a b c d e f g h t).1.e, .int .i64 (feed2F a b c d e f g h t).1.f, .int .i64 (feed2F a b c d e f g h t).1.g, .int .i64 (feed2F a b c d e f g h t).1.h], .int .i64 (feed2F a b c d e f g h t).2]) ∧ Below w.heap.size w w' := by
  cases hv : vD a b c d e f g h
  · have hcode : (1 : Int) = if vD a b c d e f g h = true then (if inR t (-1000000000) 1000000000 = true then 0 else 2) else 1 := by simp [hv]
    have HC := Lib.hid hcode
    clear hcode
    go_enter Try.func20, Try.ntmps20
    go_wp2_with fail; refine (l14Code_any _ _ _ _ _ _ _ _ _ _ _ HC.out).mono ?_; rintro e w1 ⟨rfl, hb1⟩; obtain ⟨hc1, hf1, -, hB1⟩ := bcell hb1; have hz1 := hb1.size; (try simp at hz1); (try have hk1_0 : w.heap.size < w1.heap.size := by omega); (try have hk1_1 : w.heap.size + 1 < w1.heap.size := by omega); (try have hk1_2 : w.heap.size + 1 + 1 < w1.heap.size := by omega)
    go_wp2_with fail
    apply body_row2 (w.heap.size + 1) 32 Try.results20 Try.underlying32 rfl rfl rfl; (case q => simp (disch := (first | omega | (simp; done) | (simp; omega))) [*]; try rfl); (case hi => kernel_rfl)
    exact ⟨by simp [feed2F, hv, zD], (by repeat' (first | (with_reducible exact Below.refl _ _) | (with_reducible assumption) | (with_reducible refine Below.setCell ?_ ?_ _) | (with_reducible refine Below.alloc ?_ ?_ _) | (with_reducible refine Below.drew ?_) | (with_reducible refine below_drewN ?_ _) | (with_reducible refine Below.trans ?_ (Below.mono (by with_reducible assumption) ?_)) | go_size | (simp at *; omega)))⟩
  · cases ht : inR t (-1000000000) 1000000000
    · have hcode : (2 : Int) = if vD a b c d e f g h = true then (if inR t (-1000000000) 1000000000 = true then 0 else 2) else 1 := by simp [hv, ht]
      have HC := Lib.hid hcode
      clear hcode
      go_enter Try.func20, Try.ntmps20
      go_wp2_with fail; refine (l14Code_any _ _ _ _ _ _ _ _ _ _ _ HC.out).mono ?_; rintro e w1 ⟨rfl, hb1⟩; obtain ⟨hc1, hf1, -, hB1⟩ := bcell hb1; have hz1 := hb1.size; (try simp at hz1); (try have hk1_0 : w.heap.size < w1.heap.size := by omega); (try have hk1_1 : w.heap.size + 1 < w1.heap.size := by omega); (try have hk1_2 : w.heap.size + 1 + 1 < w1.heap.size := by omega)
      go_wp2_with fail
      apply body_row2 (w.heap.size + 1) 32 Try.results20 Try.underlying32 rfl rfl rfl; (case q => simp (disch := (first | omega | (simp; done) | (simp; omega))) [*]; try rfl); (case hi => kernel_rfl)
      exact ⟨by simp [feed2F, hv, ht, zD], (by repeat' (first | (with_reducible exact Below.refl _ _) | (with_reducible assumption) | (with_reducible refine Below.setCell ?_ ?_ _) | (with_reducible refine Below.alloc ?_ ?_ _) | (with_reducible refine Below.drew ?_) | (with_reducible refine below_drewN ?_ _) | (with_reducible refine Below.trans ?_ (Below.mono (by with_reducible assumption) ?_)) | go_size | (simp at *; omega)))⟩
    · have hcode : (0 : Int) = if vD a b c d e f g h = true then (if inR t (-1000000000) 1000000000 = true then 0 else 2) else 1 := by simp [hv, ht]
      have HC := Lib.hid hcode
      clear hcode
      have hb := vD_b hv
      have q := bD_iff.1 hb
      have m0 : Mid (a * t) := mul_s q.1 (inR_iff.1 ht)
      have m1 : Mid (c * t) := mul_s q.2.2.1 (inR_iff.1 ht)
      have m2 : Mid (e * t) := mul_s q.2.2.2.2.1 (inR_iff.1 ht)
      have m3 : Mid (g * t) := mul_s q.2.2.2.2.2.2.1 (inR_iff.1 ht)
      clear q
      cases h2 : vD (a * t + b) a (c * t + d) c (e * t + f) e (g * t + h) g
      all_goals
        go_enter Try.func20, Try.ntmps20
        go_wp2_with fail; refine (l14Code_any _ _ _ _ _ _ _ _ _ _ _ HC.out).mono ?_; rintro e w1 ⟨rfl, hb1⟩; obtain ⟨hc1, hf1, -, hB1⟩ := bcell hb1; have hz1 := hb1.size; (try simp at hz1); (try have hk1_0 : w.heap.size < w1.heap.size := by omega); (try have hk1_1 : w.heap.size + 1 < w1.heap.size := by omega); (try have hk1_2 : w.heap.size + 1 + 1 < w1.heap.size := by omega)
        go_wp2_with fail; refine (l14Second_any _ _ _ _ _ _ _ _ _ _ hb m0 m1 m2 m3).mono ?_; rintro e w2 ⟨rfl, hb2⟩; obtain ⟨hc2, hf2, -, hB2⟩ := bcell hb2; have hz2 := hb2.size; (try simp at hz2); (try have hk2_0 : w.heap.size < w2.heap.size := by omega); (try have hk2_1 : w.heap.size + 1 < w2.heap.size := by omega); (try have hk2_2 : w.heap.size + 1 + 1 < w2.heap.size := by omega); (try have hk2_3 : w1.heap.size < w2.heap.size := by omega); (try have hk2_4 : w1.heap.size + 1 < w2.heap.size := by omega)
        go_wp2_with fail; refine (l14Ok_any _ _ _ _ _ _ _ _ _).mono ?_; rintro e w3 ⟨rfl, hb3⟩; obtain ⟨hc3, hf3, -, hB3⟩ := bcell hb3; have hz3 := hb3.size; (try simp at hz3); (try have hk3_0 : w.heap.size < w3.heap.size := by omega); (try have hk3_1 : w.heap.size + 1 < w3.heap.size := by omega); (try have hk3_2 : w.heap.size + 1 + 1 < w3.heap.size := by omega); (try have hk3_3 : w1.heap.size < w3.heap.size := by omega); (try have hk3_4 : w1.heap.size + 1 < w3.heap.size := by omega); (try have hk3_5 : w2.heap.size < w3.heap.size := by omega); (try have hk3_6 : w2.heap.size + 1 < w3.heap.size := by omega)
        go_wp2_with fail
        apply body_row2 (w.heap.size + 1) 32 Try.results20 Try.underlying32 rfl rfl rfl; (case q => simp (disch := (first | omega | (simp; done) | (simp; omega))) [*]; try rfl); (case hi => kernel_rfl)
        exact ⟨by simp [feed2F, plainD, hv, ht, h2, zD], (by repeat' (first | (with_reducible exact Below.refl _ _) | (with_reducible assumption) | (with_reducible refine Below.setCell ?_ ?_ _) | (with_reducible refine Below.alloc ?_ ?_ _) | (with_reducible refine Below.drew ?_) | (with_reducible refine below_drewN ?_ _) | (with_reducible refine Below.trans ?_ (Below.mono (by with_reducible assumption) ?_)) | go_size | (simp at *; omega)))⟩
end Go.Proofs.Ytfnjboaocalidaa
