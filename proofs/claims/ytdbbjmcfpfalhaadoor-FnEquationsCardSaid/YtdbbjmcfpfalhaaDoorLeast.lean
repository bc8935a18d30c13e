/- The least solution with 1: the program's walk. -/
import Derived.Test.YtdbbjmcfpfalhaaDoorMul
namespace Go.Proofs.YtdbbjmcfpfalhaaDoor
open Go.ChangeShapes Go.WideShapes Go.ChangeAt Go.RowKit
set_option linter.unusedVariables false
set_option maxHeartbeats 8000000
set_option maxRecDepth 20000
/-- The least solution with 1 out of the unit (x, y), whose norm is -1 just if 'odd'. -/
def lsR (d x y : Int) (odd : Bool) : Int × Int × Bool :=
  if pOk d x y = true then (if odd = true then ((muR d x y x y).1, (muR d x y x y).2, muB d x y x y) else (x, y, true)) else (0, 0, false)
def odN (n : Nat) : Bool := decide (n % 2 = 1)
theorem leastPell_any (d : Int) (D r n : Nat) (H : PerI d D r n) (w : World) :
    Calls Tryd.prog 36 #[.int .i64 d] w fun e w' => e = .returned (.tuple #[.agg #[.int .i64 (lsR d (cv D r n).x (cv D r n).y (odN n)).1, .int .i64 (lsR d (cv D r n).x (cv D r n).y (odN n)).2.1], .bool (lsR d (cv D r n).x (cv D r n).y (odN n)).2.2]) ∧ Below w.heap.size w w' := by
  have UN := unit_any d D r n H
  have hd1 : 2 ≤ d ∧ d ≤ 10000 := by have := H.d1; have := H.d2; have := H.eD; omega
  have hs := nrm_sign H
  have hnn := cv_nn (D := D) (r := r) n
  clear H
  generalize (cv D r n).x = X at *
  generalize (cv D r n).y = Y at *
  cases hp : pOk d X Y
  · have e : unR d X Y = (0, 0, 0, false) := by unfold unR; rw [hp]; rfl
    have HF : Hid (lsR d X Y (odN n) = (0, 0, false)) := Lib.hid (by unfold lsR; rw [hp]; rfl)
    rw [e] at UN
    have HU := Lib.hid UN
    clear UN e hs hp
    go_enter Tryd.func36, Tryd.ntmps36
    go_wp2_with fail; refine (HU.out _).mono ?_; rintro e w1 ⟨rfl, hb1⟩; obtain ⟨hc1, hf1, -, hB1⟩ := bcell hb1; have hz1 := hb1.size; (try simp at hz1); (try have hk1_0 : w.heap.size < w1.heap.size := by omega); (try have hk1_1 : w.heap.size + 1 < w1.heap.size := by omega); (try have hk1_2 : w.heap.size + 1 + 1 < w1.heap.size := by omega); (try have hk1_3 : w.heap.size + 1 + 1 + 1 < w1.heap.size := by omega); (try have hk1_4 : wr.heap.size < w1.heap.size := by omega); (try have hk1_5 : wr.heap.size + 1 < w1.heap.size := by omega)
    go_wp2_with fail
    apply body_row2 (w.heap.size) 32 Tryd.results36 Tryd.underlying32 rfl rfl rfl; (case q => simp (disch := (first | omega | (simp; done) | (simp; omega))) [*]; try rfl); (case hi => kernel_rfl)
    exact ⟨by rw [HF.out]; rfl, (by repeat' (first | (with_reducible exact Below.refl _ _) | (with_reducible assumption) | (with_reducible refine Below.setCell ?_ ?_ _) | (with_reducible refine Below.alloc ?_ ?_ _) | (with_reducible refine Below.drew ?_) | (with_reducible refine below_drewN ?_ _) | (with_reducible refine Below.trans ?_ (Below.mono (by with_reducible assumption) ?_)) | go_size | (simp at *; omega)))⟩
  · have e : unR d X Y = (X, Y, nrm d X Y, true) := by unfold unR; rw [hp]; rfl
    rw [e] at UN
    have HU := Lib.hid UN
    have MU := Lib.hid (mulPairs_any d X Y X Y · hd1 hp hp)
    have HF0 : Hid (∀ o, lsR d X Y o = if o = true then ((muR d X Y X Y).1, (muR d X Y X Y).2, muB d X Y X Y) else (X, Y, true)) := Lib.hid (fun o => by unfold lsR; rw [hp]; rfl)
    clear UN e hp
    generalize nrm d X Y = N at *
    generalize muB d X Y X Y = mb at *
    generalize muR d X Y X Y = mr at *
    by_cases ho : n % 2 = 1
    · have hneg : N < 0 := hs.2 ho
      have HF : Hid (lsR d X Y (odN n) = (mr.1, mr.2, mb)) := Lib.hid (by rw [HF0.out]; simp [odN, ho])
      clear hs ho HF0
      obtain ⟨m1, m2⟩ := mr
      go_enter Tryd.func36, Tryd.ntmps36
      go_wp2_with fail; refine (HU.out _).mono ?_; rintro e w1 ⟨rfl, hb1⟩; obtain ⟨hc1, hf1, -, hB1⟩ := bcell hb1; have hz1 := hb1.size; (try simp at hz1); (try have hk1_0 : w.heap.size < w1.heap.size := by omega); (try have hk1_1 : w.heap.size + 1 < w1.heap.size := by omega); (try have hk1_2 : w.heap.size + 1 + 1 < w1.heap.size := by omega); (try have hk1_3 : w.heap.size + 1 + 1 + 1 < w1.heap.size := by omega); (try have hk1_4 : wr.heap.size < w1.heap.size := by omega); (try have hk1_5 : wr.heap.size + 1 < w1.heap.size := by omega)
      go_wp2_with fail; refine (MU.out _).mono ?_; rintro e w2 ⟨rfl, hb2⟩; obtain ⟨hc2, hf2, -, hB2⟩ := bcell hb2; have hz2 := hb2.size; (try simp at hz2); (try have hk2_0 : w.heap.size < w2.heap.size := by omega); (try have hk2_1 : w.heap.size + 1 < w2.heap.size := by omega); (try have hk2_2 : w.heap.size + 1 + 1 < w2.heap.size := by omega); (try have hk2_3 : w.heap.size + 1 + 1 + 1 < w2.heap.size := by omega); (try have hk2_4 : wr.heap.size < w2.heap.size := by omega); (try have hk2_5 : wr.heap.size + 1 < w2.heap.size := by omega); (try have hk2_6 : w1.heap.size < w2.heap.size := by omega); (try have hk2_7 : w1.heap.size + 1 < w2.heap.size := by omega)
      go_wp2_with fail
      apply body_row2 (w.heap.size) 32 Tryd.results36 Tryd.underlying32 rfl rfl rfl; (case q => simp (disch := (first | omega | (simp; done) | (simp; omega))) [*]; try rfl); (case hi => kernel_rfl)
      exact ⟨by rw [HF.out]; rfl, (by repeat' (first | (with_reducible exact Below.refl _ _) | (with_reducible assumption) | (with_reducible refine Below.setCell ?_ ?_ _) | (with_reducible refine Below.alloc ?_ ?_ _) | (with_reducible refine Below.drew ?_) | (with_reducible refine below_drewN ?_ _) | (with_reducible refine Below.trans ?_ (Below.mono (by with_reducible assumption) ?_)) | go_size | (simp at *; omega)))⟩
    · have hneg : ¬ N < 0 := fun h => ho (hs.1 h)
      have HF : Hid (lsR d X Y (odN n) = (X, Y, true)) := Lib.hid (by rw [HF0.out]; simp [odN, ho])
      clear hs ho HF0
      go_enter Tryd.func36, Tryd.ntmps36
      go_wp2_with fail; refine (HU.out _).mono ?_; rintro e w1 ⟨rfl, hb1⟩; obtain ⟨hc1, hf1, -, hB1⟩ := bcell hb1; have hz1 := hb1.size; (try simp at hz1); (try have hk1_0 : w.heap.size < w1.heap.size := by omega); (try have hk1_1 : w.heap.size + 1 < w1.heap.size := by omega); (try have hk1_2 : w.heap.size + 1 + 1 < w1.heap.size := by omega); (try have hk1_3 : w.heap.size + 1 + 1 + 1 < w1.heap.size := by omega); (try have hk1_4 : wr.heap.size < w1.heap.size := by omega); (try have hk1_5 : wr.heap.size + 1 < w1.heap.size := by omega)
      go_wp2_with fail
      apply body_row2 (w.heap.size) 32 Tryd.results36 Tryd.underlying32 rfl rfl rfl; (case q => simp (disch := (first | omega | (simp; done) | (simp; omega))) [*]; try rfl); (case hi => kernel_rfl)
      exact ⟨by rw [HF.out]; rfl, (by repeat' (first | (with_reducible exact Below.refl _ _) | (with_reducible assumption) | (with_reducible refine Below.setCell ?_ ?_ _) | (with_reducible refine Below.alloc ?_ ?_ _) | (with_reducible refine Below.drew ?_) | (with_reducible refine below_drewN ?_ _) | (with_reducible refine Below.trans ?_ (Below.mono (by with_reducible assumption) ?_)) | go_size | (simp at *; omega)))⟩
end Go.Proofs.YtdbbjmcfpfalhaaDoor
