/- Products of pairs, and the least solution with 1: both packages. -/
import Derived.Test.YtdbbjmcfpfalhaaDoorUnit
namespace Go.Proofs.YtdbbjmcfpfalhaaDoor
open Go.ChangeShapes Go.WideShapes Go.ChangeAt Go.RowKit
set_option linter.unusedVariables false
set_option maxHeartbeats 8000000
set_option maxRecDepth 20000
def muX (d ax ay bx b_ : Int) : Int := ax * bx + d * ay * b_
def muY (ax ay bx b_ : Int) : Int := ax * b_ + ay * bx
/-- Whether the product is plain. -/
def muB (d ax ay bx b_ : Int) : Bool := decide (ab (ay * b_) ≤ 1000000000000000000 / d) && pOk d (muX d ax ay bx b_) (muY ax ay bx b_)
def muR (d ax ay bx b_ : Int) : Int × Int := if muB d ax ay bx b_ = true then (muX d ax ay bx b_, muY ax ay bx b_) else (0, 0)
theorem mu_facts {d ax ay bx b_ : Int} (hd : 2 ≤ d ∧ d ≤ 10000) (h1 : pOk d ax ay = true) (h2 : pOk d bx b_ = true) :
    (-1000000000000000000 ≤ ay * b_ ∧ ay * b_ ≤ 1000000000000000000) ∧ (-1000000000000000000 ≤ ax * bx ∧ ax * bx ≤ 1000000000000000000) ∧ (-10000000000000 ≤ d * ay ∧ d * ay ≤ 10000000000000) ∧
    (-1000000000000000000 ≤ d * ay * b_ ∧ d * ay * b_ ≤ 1000000000000000000) ∧ (-1000000000000000000 ≤ ax * b_ ∧ ax * b_ ≤ 1000000000000000000) ∧ (-1000000000000000000 ≤ ay * bx ∧ ay * bx ≤ 1000000000000000000) ∧
    ab (ay * b_) ≤ 1000000000000000000 / d := by
  obtain ⟨a1, a2, a3⟩ := pOk_iff.1 h1
  obtain ⟨b1, b2, b3⟩ := pOk_iff.1 h2
  have e1 := pOk_dyy (by omega) h1
  have e2 := pOk_dyy (by omega) h2
  have e3 := dyz (by omega) e1 e2
  have m1 := mul_b a2 b2
  have m2 := mul_b a1 b1
  have m3 := mul_b a1 b2
  have m4 := mul_b a2 b1
  have m5 := mul_b (a := d) (b := ay) (A := 10000) (B := 1000000000) (by omega) a2
  refine ⟨by omega, by omega, by omega, e3, by omega, by omega, ?_⟩
  rw [Int.le_ediv_iff_mul_le (by omega)]
  have : ab (ay * b_) * d = ab (d * ay * b_) := by
    rw [Int.mul_assoc, ab_mulI d, Int.mul_comm]
    rw [ab_pos (by omega : 0 ≤ d)]
  rw [this]
  unfold ab
  omega
theorem muB_eq {d ax ay bx b_ : Int} (hd : 2 ≤ d ∧ d ≤ 10000) (h1 : pOk d ax ay = true) (h2 : pOk d bx b_ = true) : muB d ax ay bx b_ = pOk d (muX d ax ay bx b_) (muY ax ay bx b_) := by
  have := (mu_facts hd h1 h2).2.2.2.2.2.2
  simp [muB, this]
theorem mulPairs_any (d ax ay bx b_ : Int) (w : World) (hd : 2 ≤ d ∧ d ≤ 10000) (h1 : pOk d ax ay = true) (h2 : pOk d bx b_ = true) :
    Calls Tryd.prog 52 #[.int .i64 d, .agg #[.int .i64 ax, .int .i64 ay], .agg #[.int .i64 bx, .int .i64 b_]] w fun e w' => e = .returned (.tuple #[.agg #[.int .i64 (muR d ax ay bx b_).1, .int .i64 (muR d ax ay bx b_).2], .bool (muB d ax ay bx b_)]) ∧ Below w.heap.size w w' := by
  have hB := muB_eq hd h1 h2
  obtain ⟨⟨m1, m1'⟩, ⟨m2, m2'⟩, ⟨m3, m3'⟩, ⟨m4, m4'⟩, ⟨m5, m5'⟩, ⟨m6, m6'⟩, m7⟩ := mu_facts hd h1 h2
  obtain ⟨X, hX⟩ : ∃ X, ax * bx + d * ay * b_ = X := ⟨_, rfl⟩
  obtain ⟨Y, hY⟩ : ∃ Y, ax * b_ + ay * bx = Y := ⟨_, rfl⟩
  have eX : muX d ax ay bx b_ = X := hX
  have eY : muY ax ay bx b_ = Y := hY
  have HR : Hid (muR d ax ay bx b_ = if muB d ax ay bx b_ = true then (X, Y) else (0, 0)) := Lib.hid (by unfold muR; rw [eX, eY])
  rw [eX, eY] at hB
  obtain ⟨K, hK⟩ : ∃ K, (1000000000000000000 : Int) / d = K := ⟨_, rfl⟩
  obtain ⟨M, hM⟩ : ∃ M, ay * b_ = M := ⟨_, rfl⟩
  have hK' : (1000000000000000000 : Int).tdiv d = K := by rw [Int.tdiv_eq_ediv_of_nonneg (by omega)]; exact hK
  have kb : 0 ≤ K ∧ K ≤ 1000000000000000000 := by rw [← hK]; exact ⟨Int.ediv_nonneg (by omega) (by omega), Int.ediv_le_self _ (by omega)⟩
  rw [hK, hM] at m7
  rw [hM] at m1 m1'
  have wK : IntKind.i64.wrap K = K := IntWalk.i64_in _ (by omega)
  have wM : IntKind.i64.wrap M = M := IntWalk.i64_in _ (by omega)
  have dn : (d = 0) = False := by simp; omega
  have gt : decide (ab M > K) = false := by simp; omega
  have gt' : (K < ab M) = False := by simp; omega
  have AB := Lib.hid (abs_any M · (by omega))
  generalize ab M = AM at *
  have PL := isPlainPair_any d X Y
  cases hb : pOk d X Y
  all_goals
    rw [hb] at PL hB
    have HP := Lib.hid PL
    have HB := Lib.hid hB
    clear PL hb hB h1 h2 eX eY hK
    go_enter Tryd.func52, Tryd.ntmps52
    go_wp2_with fail
    go_quiet ((go_at_call 61; first | (with_reducible exact quiet_left (AB.out _)) | (with_reducible exact quiet_add_left (AB.out _))))
    go_wp2_with fail
    obtain ⟨V, hV⟩ : ∃ V, V = ((((w.alloc (.cells #[.int .i64 ax, .int .i64 ay] 32)).alloc (.cells #[.int .i64 bx, .int .i64 b_] 32)).alloc (.cells #[.int .i64 0, .int .i64 0] 32)).drewN nq).alloc (.cells #[.int .i64 X, .int .i64 Y] 32) := ⟨_, rfl⟩
    have k0 : heapAt V (w.heap.size + 1 + 1 + 1) = some (.cells #[.int .i64 X, .int .i64 Y] 32 (0, 0)) := by rw [hV]; have h := heapAt_new ((((w.alloc (.cells #[.int .i64 ax, .int .i64 ay] 32)).alloc (.cells #[.int .i64 bx, .int .i64 b_] 32)).alloc (.cells #[.int .i64 0, .int .i64 0] 32)).drewN nq) (.cells #[.int .i64 X, .int .i64 Y] 32); simp at h; exact h
    have kR : heapAt V (w.heap.size + 1 + 1) = some (.cells #[.int .i64 0, .int .i64 0] 32 (0, 0)) := by rw [hV]; exact (by simp (disch := (first | omega | (simp; done) | (simp; omega))) [*])
    have kb : Below w.heap.size w V := by rw [hV]; exact (by repeat' (first | (with_reducible exact Below.refl _ _) | (with_reducible assumption) | (with_reducible refine Below.setCell ?_ ?_ _) | (with_reducible refine Below.alloc ?_ ?_ _) | (with_reducible refine Below.drew ?_) | (with_reducible refine below_drewN ?_ _) | (with_reducible refine Below.trans ?_ (Below.mono (by with_reducible assumption) ?_)) | go_size | (simp at *; omega)))
    rw [← hV]
    clear hV
    obtain ⟨z0, p1, p2, -⟩ := blk2 k0
    obtain ⟨zR, r1, r2, r3, r4⟩ := blk2 kR
    go_wp2_with fail; refine (HP.out _ hd).mono ?_; rintro e w1 ⟨rfl, hb1⟩; obtain ⟨hc1, hf1, -, hB1⟩ := bcell hb1; have hz1 := hb1.size; (try simp at hz1); (try have hk1_0 : w.heap.size < w1.heap.size := by omega); (try have hk1_1 : w.heap.size + 1 < w1.heap.size := by omega); (try have hk1_2 : w.heap.size + 1 + 1 < w1.heap.size := by omega); (try have hk1_3 : w.heap.size + 1 + 1 + 1 < w1.heap.size := by omega); (try have hk1_4 : wr.heap.size < w1.heap.size := by omega); (try have hk1_5 : wr.heap.size + 1 < w1.heap.size := by omega)
    go_wp2_with fail
    apply body_row2 (w.heap.size + 1 + 1) 32 Tryd.results52 Tryd.underlying32 rfl rfl rfl; (case q => simp (disch := (first | omega | (simp; done) | (simp; omega))) [*]; try rfl); (case hi => kernel_rfl)
    exact ⟨by rw [HR.out, HB.out]; rfl, (by repeat' (first | (with_reducible exact Below.refl _ _) | (with_reducible assumption) | (with_reducible refine Below.setCell ?_ ?_ _) | (with_reducible refine Below.alloc ?_ ?_ _) | (with_reducible refine Below.drew ?_) | (with_reducible refine below_drewN ?_ _) | (with_reducible refine Below.trans ?_ (Below.mono (by with_reducible assumption) ?_)) | go_size | (simp at *; omega)))⟩
end Go.Proofs.YtdbbjmcfpfalhaaDoor
