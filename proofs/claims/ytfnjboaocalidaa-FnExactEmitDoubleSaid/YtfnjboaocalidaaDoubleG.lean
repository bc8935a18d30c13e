/- Terms that a bihomographic function emits: both packages. -/
import Derived.Test.YtfnjboaocalidaaDoubleFi
import Derived.Test.YtfnjboaocalidaaDoubleFs
import Derived.Test.YtfnjboaocalidaaStateC
namespace Go.Proofs.Ytfnjboaocalidaa
open Go.ChangeShapes Go.WideShapes Go.ChangeAt Go.RowKit
set_option linter.unusedVariables false
set_option maxHeartbeats 20000000
set_option maxRecDepth 20000
/-- A function behind a term. -/
def nxD (a b c d e f i h q : Int) : Db := ⟨e, f, i, h, a - q * e, b - q * f, c - q * i, d - q * h⟩
def emdF (a b c d e f i h : Int) : Int × Db × Int :=
  if vD a b c d e f i h = true then (if (kd8 a b c d e f i h).2 = true then (if vD e f i h (a - (kd8 a b c d e f i h).1 * e) (b - (kd8 a b c d e f i h).1 * f) (c - (kd8 a b c d e f i h).1 * i) (d - (kd8 a b c d e f i h).1 * h) = true then ((kd8 a b c d e f i h).1, nxD a b c d e f i h (kd8 a b c d e f i h).1, 0) else (0, zD, 5)) else (0, zD, 10)) else (0, zD, 1)
theorem emdF_bad {a b c d e f i h : Int} (h1 : vD a b c d e f i h = false) : emdF a b c d e f i h = (0, zD, 1) := by unfold emdF; rw [h1]; rfl
theorem emdF_open {a b c d e f i h : Int} (h1 : vD a b c d e f i h = true) (h2 : (kd8 a b c d e f i h).2 = false) : emdF a b c d e f i h = (0, zD, 10) := by unfold emdF; rw [if_pos h1, if_neg (by rw [h2]; decide)]
theorem emdF_full {a b c d e f i h q : Int} (h1 : vD a b c d e f i h = true) (h2 : kd8 a b c d e f i h = (q, true)) (h3 : vD e f i h (a - q * e) (b - q * f) (c - q * i) (d - q * h) = false) : emdF a b c d e f i h = (0, zD, 5) := by
  unfold emdF; rw [if_pos h1, h2]; simp only [if_true]; rw [h3]; rfl
theorem emdF_ok {a b c d e f i h q : Int} (h1 : vD a b c d e f i h = true) (h2 : kd8 a b c d e f i h = (q, true)) (h3 : vD e f i h (a - q * e) (b - q * f) (c - q * i) (d - q * h) = true) : emdF a b c d e f i h = (q, nxD a b c d e f i h q, 0) := by
  unfold emdF; rw [if_pos h1, h2]; simp only [if_true]; rw [h3]; rfl
theorem kd_open {a b c d e f i h : Int} (hb : bD 1000000000 a b c d e f i h = true) (hk : (kd8 a b c d e f i h).2 = true) : ∃ q : Int, kd8 a b c d e f i h = (q, true) ∧ (-1000000000 ≤ q ∧ q ≤ 1000000000) := by
  have := kd_bound (bD_iff.1 hb).1 hk
  exact ⟨(kd8 a b c d e f i h).1, by rw [← hk], this⟩
theorem emittedDouble_any (a b c d e f i h q : Int) (w : World) (hb : bD 1000000000 a b c d e f i h = true) (hq : -1000000000 ≤ q ∧ q ≤ 1000000000) :
    Calls Try.prog 68 #[.agg #[.int .i64 a, .int .i64 b, .int .i64 c, .int .i64 d, .int .i64 e, .int .i64 f, .int .i64 i, .int .i64 h], .int .i64 q] w fun e' w' => e' = .returned (.agg #[.int .i64 e, .int .i64 f, .int .i64 i, .int .i64 h, .int .i64 (a - q * e), .int .i64 (b - q * f), .int .i64 (c - q * i), .int .i64 (d - q * h)]) ∧ Below w.heap.size w w' := by
  obtain ⟨⟨la, ua⟩, ⟨lb, ub⟩, ⟨lc, uc⟩, ⟨ld, ud⟩, he, hf, hi, hh⟩ := bD_iff.1 hb
  obtain ⟨m1, m1'⟩ := mul_s hq he
  obtain ⟨m2, m2'⟩ := mul_s hq hf
  obtain ⟨m3, m3'⟩ := mul_s hq hi
  obtain ⟨m4, m4'⟩ := mul_s hq hh
  clear hb
  go_enter Try.func68, Try.ntmps68
  go_wp2
  go_returns
  exact ⟨rfl, (by repeat' (first | (with_reducible exact Below.refl _ _) | (with_reducible assumption) | (with_reducible refine Below.setCell ?_ ?_ _) | (with_reducible refine Below.alloc ?_ ?_ _) | (with_reducible refine Below.drew ?_) | (with_reducible refine below_drewN ?_ _) | (with_reducible refine Below.trans ?_ (Below.mono (by with_reducible assumption) ?_)) | go_size | (simp at *; omega)))⟩
theorem emitDouble_any (a b c d e f i h : Int) (w : World) :
    Calls Try.prog 33 #[.agg #[.int .i64 a, .int .i64 b, .int .i64 c, .int .i64 d, .int .i64 e, .int .i64 f, .int .i64 i, .int .i64 h]] w fun e' w' => e' = .returned (.tuple #[.int .i64 (emdF a b c d e f i h).1, .agg #[.int .i64 (emdF a b c d e f i h).2.1.a, .int .i64 (emdF a b c d e f i h).2.1.b, .int .i64 (emdF a b c d e f i h).2.1.c, .int .i64 (emdF a b c d e f i h).2.1.d, .int .i64 (emdF a b c d e f i h).2.1.e, .int .i64 (emdF a b c d e f i h).2.1.f, .int .i64 (emdF a b c d e f i h).2.1.g, .int .i64 (emdF a b c d e f i h).2.1.h], .int .i64 (emdF a b c d e f i h).2.2]) ∧ Below w.heap.size w w' := by
  cases hv : vD a b c d e f i h
  · have HF : Hid (emdF a b c d e f i h = (0, zD, 1)) := Lib.hid (emdF_bad hv)
    go_enter Try.func33, Try.ntmps33
    go_wp2_with fail; refine (validDouble_any _ _ _ _ _ _ _ _ _).mono ?_; rintro e w1 ⟨rfl, hb1⟩; obtain ⟨hc1, hf1, -, hB1⟩ := bcell hb1; have hz1 := hb1.size; (try simp at hz1); (try have hk1_0 : w.heap.size < w1.heap.size := by omega); (try have hk1_1 : w.heap.size + 1 < w1.heap.size := by omega); (try have hk1_2 : w.heap.size + 1 + 1 < w1.heap.size := by omega); (try have hk1_3 : w.heap.size + 1 + 1 + 1 < w1.heap.size := by omega); (try have hk1_4 : wr.heap.size < w1.heap.size := by omega); (try have hk1_5 : wr.heap.size + 1 < w1.heap.size := by omega)
    go_wp2_with fail
    apply body_row3 (w.heap.size + 1) 32 Try.results33 Try.underlying32 rfl rfl rfl; (case q => simp (disch := (first | omega | (simp; done) | (simp; omega))) [*]; try rfl); (case hi => kernel_rfl)
    exact ⟨by rw [HF.out]; simp [zD], (by repeat' (first | (with_reducible exact Below.refl _ _) | (with_reducible assumption) | (with_reducible refine Below.setCell ?_ ?_ _) | (with_reducible refine Below.alloc ?_ ?_ _) | (with_reducible refine Below.drew ?_) | (with_reducible refine below_drewN ?_ _) | (with_reducible refine Below.trans ?_ (Below.mono (by with_reducible assumption) ?_)) | go_size | (simp at *; omega)))⟩
  · have hb := vD_b hv
    cases hk : (kd8 a b c d e f i h).2
    · have HF : Hid (emdF a b c d e f i h = (0, zD, 10)) := Lib.hid (emdF_open hv hk)
      have KN := Lib.hid (knownDouble_any a b c d e f i h · hb)
      clear hb
      go_enter Try.func33, Try.ntmps33
      go_wp2_with fail; refine (validDouble_any _ _ _ _ _ _ _ _ _).mono ?_; rintro e w1 ⟨rfl, hb1⟩; obtain ⟨hc1, hf1, -, hB1⟩ := bcell hb1; have hz1 := hb1.size; (try simp at hz1); (try have hk1_0 : w.heap.size < w1.heap.size := by omega); (try have hk1_1 : w.heap.size + 1 < w1.heap.size := by omega); (try have hk1_2 : w.heap.size + 1 + 1 < w1.heap.size := by omega); (try have hk1_3 : w.heap.size + 1 + 1 + 1 < w1.heap.size := by omega); (try have hk1_4 : wr.heap.size < w1.heap.size := by omega); (try have hk1_5 : wr.heap.size + 1 < w1.heap.size := by omega)
      go_wp2_with fail; refine (KN.out _).mono ?_; rintro e w2 ⟨rfl, hb2⟩; obtain ⟨hc2, hf2, -, hB2⟩ := bcell hb2; have hz2 := hb2.size; (try simp at hz2); (try have hk2_0 : w.heap.size < w2.heap.size := by omega); (try have hk2_1 : w.heap.size + 1 < w2.heap.size := by omega); (try have hk2_2 : w.heap.size + 1 + 1 < w2.heap.size := by omega); (try have hk2_3 : w.heap.size + 1 + 1 + 1 < w2.heap.size := by omega); (try have hk2_4 : wr.heap.size < w2.heap.size := by omega); (try have hk2_5 : wr.heap.size + 1 < w2.heap.size := by omega); (try have hk2_6 : w1.heap.size < w2.heap.size := by omega); (try have hk2_7 : w1.heap.size + 1 < w2.heap.size := by omega)
      go_wp2_with fail
      apply body_row3 (w.heap.size + 1) 32 Try.results33 Try.underlying32 rfl rfl rfl; (case q => simp (disch := (first | omega | (simp; done) | (simp; omega))) [*]; try rfl); (case hi => kernel_rfl)
      exact ⟨by rw [HF.out]; simp [zD], (by repeat' (first | (with_reducible exact Below.refl _ _) | (with_reducible assumption) | (with_reducible refine Below.setCell ?_ ?_ _) | (with_reducible refine Below.alloc ?_ ?_ _) | (with_reducible refine Below.drew ?_) | (with_reducible refine below_drewN ?_ _) | (with_reducible refine Below.trans ?_ (Below.mono (by with_reducible assumption) ?_)) | go_size | (simp at *; omega)))⟩
    · obtain ⟨q, hkq, hq⟩ := kd_open hb hk
      have KN := Lib.hid (by have h := (knownDouble_any a b c d e f i h · hb); rw [hkq] at h; exact h)
      have EM := Lib.hid (emittedDouble_any a b c d e f i h q · hb hq)
      cases hn : vD e f i h (a - q * e) (b - q * f) (c - q * i) (d - q * h)
      · have HF : Hid (emdF a b c d e f i h = (0, zD, 5)) := Lib.hid (emdF_full hv hkq hn)
        clear hk hb hq hkq
        go_enter Try.func33, Try.ntmps33
        go_wp2_with fail; refine (validDouble_any _ _ _ _ _ _ _ _ _).mono ?_; rintro e w1 ⟨rfl, hb1⟩; obtain ⟨hc1, hf1, -, hB1⟩ := bcell hb1; have hz1 := hb1.size; (try simp at hz1); (try have hk1_0 : w.heap.size < w1.heap.size := by omega); (try have hk1_1 : w.heap.size + 1 < w1.heap.size := by omega); (try have hk1_2 : w.heap.size + 1 + 1 < w1.heap.size := by omega); (try have hk1_3 : w.heap.size + 1 + 1 + 1 < w1.heap.size := by omega); (try have hk1_4 : wr.heap.size < w1.heap.size := by omega); (try have hk1_5 : wr.heap.size + 1 < w1.heap.size := by omega)
        go_wp2_with fail; refine (KN.out _).mono ?_; rintro e w2 ⟨rfl, hb2⟩; obtain ⟨hc2, hf2, -, hB2⟩ := bcell hb2; have hz2 := hb2.size; (try simp at hz2); (try have hk2_0 : w.heap.size < w2.heap.size := by omega); (try have hk2_1 : w.heap.size + 1 < w2.heap.size := by omega); (try have hk2_2 : w.heap.size + 1 + 1 < w2.heap.size := by omega); (try have hk2_3 : w.heap.size + 1 + 1 + 1 < w2.heap.size := by omega); (try have hk2_4 : wr.heap.size < w2.heap.size := by omega); (try have hk2_5 : wr.heap.size + 1 < w2.heap.size := by omega); (try have hk2_6 : w1.heap.size < w2.heap.size := by omega); (try have hk2_7 : w1.heap.size + 1 < w2.heap.size := by omega)
        go_wp2_with fail; refine (EM.out _).mono ?_; rintro e w3 ⟨rfl, hb3⟩; obtain ⟨hc3, hf3, -, hB3⟩ := bcell hb3; have hz3 := hb3.size; (try simp at hz3); (try have hk3_0 : w.heap.size < w3.heap.size := by omega); (try have hk3_1 : w.heap.size + 1 < w3.heap.size := by omega); (try have hk3_2 : w.heap.size + 1 + 1 < w3.heap.size := by omega); (try have hk3_3 : w.heap.size + 1 + 1 + 1 < w3.heap.size := by omega); (try have hk3_4 : wr.heap.size < w3.heap.size := by omega); (try have hk3_5 : wr.heap.size + 1 < w3.heap.size := by omega); (try have hk3_6 : w1.heap.size < w3.heap.size := by omega); (try have hk3_7 : w1.heap.size + 1 < w3.heap.size := by omega); (try have hk3_8 : w2.heap.size < w3.heap.size := by omega); (try have hk3_9 : w2.heap.size + 1 < w3.heap.size := by omega)
        go_wp2_with fail; refine (validDouble_any _ _ _ _ _ _ _ _ _).mono ?_; rintro e w4 ⟨rfl, hb4⟩; obtain ⟨hc4, hf4, -, hB4⟩ := bcell hb4; have hz4 := hb4.size; (try simp at hz4); (try have hk4_0 : w.heap.size < w4.heap.size := by omega); (try have hk4_1 : w.heap.size + 1 < w4.heap.size := by omega); (try have hk4_2 : w.heap.size + 1 + 1 < w4.heap.size := by omega); (try have hk4_3 : w.heap.size + 1 + 1 + 1 < w4.heap.size := by omega); (try have hk4_4 : wr.heap.size < w4.heap.size := by omega); (try have hk4_5 : wr.heap.size + 1 < w4.heap.size := by omega); (try have hk4_6 : w1.heap.size < w4.heap.size := by omega); (try have hk4_7 : w1.heap.size + 1 < w4.heap.size := by omega); (try have hk4_8 : w2.heap.size < w4.heap.size := by omega); (try have hk4_9 : w2.heap.size + 1 < w4.heap.size := by omega); (try have hk4_10 : w3.heap.size < w4.heap.size := by omega); (try have hk4_11 : w3.heap.size + 1 < w4.heap.size := by omega)
        go_wp2_with fail
        apply body_row3 (w.heap.size + 1) 32 Try.results33 Try.underlying32 rfl rfl rfl; (case q => simp (disch := (first | omega | (simp; done) | (simp; omega))) [*]; try rfl); (case hi => kernel_rfl)
        exact ⟨by rw [HF.out]; simp [zD], (by repeat' (first | (with_reducible exact Below.refl _ _) | (with_reducible assumption) | (with_reducible refine Below.setCell ?_ ?_ _) | (with_reducible refine Below.alloc ?_ ?_ _) | (with_reducible refine Below.drew ?_) | (with_reducible refine below_drewN ?_ _) | (with_reducible refine Below.trans ?_ (Below.mono (by with_reducible assumption) ?_)) | go_size | (simp at *; omega)))⟩
      · have HF : Hid (emdF a b c d e f i h = (q, nxD a b c d e f i h q, 0)) := Lib.hid (emdF_ok hv hkq hn)
        clear hk hb hq hkq
        go_enter Try.func33, Try.ntmps33
        go_wp2_with fail; refine (validDouble_any _ _ _ _ _ _ _ _ _).mono ?_; rintro e w1 ⟨rfl, hb1⟩; obtain ⟨hc1, hf1, -, hB1⟩ := bcell hb1; have hz1 := hb1.size; (try simp at hz1); (try have hk1_0 : w.heap.size < w1.heap.size := by omega); (try have hk1_1 : w.heap.size + 1 < w1.heap.size := by omega); (try have hk1_2 : w.heap.size + 1 + 1 < w1.heap.size := by omega); (try have hk1_3 : w.heap.size + 1 + 1 + 1 < w1.heap.size := by omega); (try have hk1_4 : wr.heap.size < w1.heap.size := by omega); (try have hk1_5 : wr.heap.size + 1 < w1.heap.size := by omega)
        go_wp2_with fail; refine (KN.out _).mono ?_; rintro e w2 ⟨rfl, hb2⟩; obtain ⟨hc2, hf2, -, hB2⟩ := bcell hb2; have hz2 := hb2.size; (try simp at hz2); (try have hk2_0 : w.heap.size < w2.heap.size := by omega); (try have hk2_1 : w.heap.size + 1 < w2.heap.size := by omega); (try have hk2_2 : w.heap.size + 1 + 1 < w2.heap.size := by omega); (try have hk2_3 : w.heap.size + 1 + 1 + 1 < w2.heap.size := by omega); (try have hk2_4 : wr.heap.size < w2.heap.size := by omega); (try have hk2_5 : wr.heap.size + 1 < w2.heap.size := by omega); (try have hk2_6 : w1.heap.size < w2.heap.size := by omega); (try have hk2_7 : w1.heap.size + 1 < w2.heap.size := by omega)
        go_wp2_with fail; refine (EM.out _).mono ?_; rintro e w3 ⟨rfl, hb3⟩; obtain ⟨hc3, hf3, -, hB3⟩ := bcell hb3; have hz3 := hb3.size; (try simp at hz3); (try have hk3_0 : w.heap.size < w3.heap.size := by omega); (try have hk3_1 : w.heap.size + 1 < w3.heap.size := by omega); (try have hk3_2 : w.heap.size + 1 + 1 < w3.heap.size := by omega); (try have hk3_3 : w.heap.size + 1 + 1 + 1 < w3.heap.size := by omega); (try have hk3_4 : wr.heap.size < w3.heap.size := by omega); (try have hk3_5 : wr.heap.size + 1 < w3.heap.size := by omega); (try have hk3_6 : w1.heap.size < w3.heap.size := by omega); (try have hk3_7 : w1.heap.size + 1 < w3.heap.size := by omega); (try have hk3_8 : w2.heap.size < w3.heap.size := by omega); (try have hk3_9 : w2.heap.size + 1 < w3.heap.size := by omega)
        go_wp2_with fail; refine (validDouble_any _ _ _ _ _ _ _ _ _).mono ?_; rintro e w4 ⟨rfl, hb4⟩; obtain ⟨hc4, hf4, -, hB4⟩ := bcell hb4; have hz4 := hb4.size; (try simp at hz4); (try have hk4_0 : w.heap.size < w4.heap.size := by omega); (try have hk4_1 : w.heap.size + 1 < w4.heap.size := by omega); (try have hk4_2 : w.heap.size + 1 + 1 < w4.heap.size := by omega); (try have hk4_3 : w.heap.size + 1 + 1 + 1 < w4.heap.size := by omega); (try have hk4_4 : wr.heap.size < w4.heap.size := by omega); (try have hk4_5 : wr.heap.size + 1 < w4.heap.size := by omega); (try have hk4_6 : w1.heap.size < w4.heap.size := by omega); (try have hk4_7 : w1.heap.size + 1 < w4.heap.size := by omega); (try have hk4_8 : w2.heap.size < w4.heap.size := by omega); (try have hk4_9 : w2.heap.size + 1 < w4.heap.size := by omega); (try have hk4_10 : w3.heap.size < w4.heap.size := by omega); (try have hk4_11 : w3.heap.size + 1 < w4.heap.size := by omega)
        go_wp2_with fail
        go_region
        all_goals
          go_wp2_with fail
          apply body_row3 (w.heap.size + 1) 32 Try.results33 Try.underlying32 rfl rfl rfl; (case q => simp (disch := (first | omega | (simp; done) | (simp; omega))) [*]; try rfl); (case hi => kernel_rfl)
          exact ⟨by rw [HF.out]; simp [nxD], (by repeat' (first | (with_reducible exact Below.refl _ _) | (with_reducible assumption) | (with_reducible refine Below.setCell ?_ ?_ _) | (with_reducible refine Below.alloc ?_ ?_ _) | (with_reducible refine Below.drew ?_) | (with_reducible refine below_drewN ?_ _) | (with_reducible refine Below.trans ?_ (Below.mono (by with_reducible assumption) ?_)) | go_size | (simp at *; omega)))⟩
end Go.Proofs.Ytfnjboaocalidaa
