/- The least solution with 1: the reference's walk. -/
import Derived.Test.YtdbbjmcfpfalhaaDoorMulS
namespace Go.Proofs.YtdbbjmcfpfalhaaDoor
open Go.ChangeShapes Go.WideShapes Go.ChangeAt Go.RowKit
set_option linter.unusedVariables false
set_option maxHeartbeats 8000000
set_option maxRecDepth 20000
/-- A pair (whatever, where it is not plain), and whether it is plain. -/
def RetLs (x y : Int) (ok : Bool) (w : World) (e : Ending) (w' : World) : Prop :=
  ∃ X Y : Int, e = .returned (.tuple #[.agg #[.int .i64 X, .int .i64 Y], .bool ok]) ∧ (ok = true → X = x ∧ Y = y) ∧ Below w.heap.size w w'
theorem l09Least_any (d : Int) (D r n : Nat) (H : PerI d D r n) (w : World) :
    Calls Tryd.prog 49 #[.int .i64 d] w (RetLs (lsR d (cv D r n).x (cv D r n).y (odN n)).1 (lsR d (cv D r n).x (cv D r n).y (odN n)).2.1 (lsR d (cv D r n).x (cv D r n).y (odN n)).2.2 w) := by
  have UN := Lib.hid (l09Unit_any d D r n H ·)
  have hd1 : 2 ≤ d ∧ d ≤ 10000 := by have := H.d1; have := H.d2; have := H.eD; omega
  have hn2 := H.per.n2
  clear H
  generalize (cv D r n).x = X at *
  generalize (cv D r n).y = Y at *
  cases hp : pOk d X Y
  · have HF : Hid (lsR d X Y (odN n) = (0, 0, false)) := Lib.hid (by unfold lsR; rw [hp]; rfl)
    rw [hp] at UN
    rw [HF.out]
    clear hp
    go_enter Tryd.func49, Tryd.ntmps49
    go_wp2_with fail
    refine (UN.out _).mono ?_
    rintro e w1 ⟨x, y, rfl, -, hb1⟩
    obtain ⟨hc1, hf1, -, hB1⟩ := bcell hb1; have hz1 := hb1.size; (try simp at hz1); (try have hk1_0 : w.heap.size < w1.heap.size := by omega); (try have hk1_1 : w.heap.size + 1 < w1.heap.size := by omega); (try have hk1_2 : w.heap.size + 1 + 1 < w1.heap.size := by omega); (try have hk1_3 : w.heap.size + 1 + 1 + 1 < w1.heap.size := by omega); (try have hk1_4 : wr.heap.size < w1.heap.size := by omega); (try have hk1_5 : wr.heap.size + 1 < w1.heap.size := by omega)
    go_wp2_with fail
    apply body_row2 (w.heap.size) 32 Tryd.results49 Tryd.underlying32 rfl rfl rfl; (case q => simp (disch := (first | omega | (simp; done) | (simp; omega))) [*]; try rfl); (case hi => kernel_rfl)
    exact ⟨_, _, rfl, fun h => by (cases h), (by repeat' (first | (with_reducible exact Below.refl _ _) | (with_reducible assumption) | (with_reducible refine Below.setCell ?_ ?_ _) | (with_reducible refine Below.alloc ?_ ?_ _) | (with_reducible refine Below.drew ?_) | (with_reducible refine below_drewN ?_ _) | (with_reducible refine Below.trans ?_ (Below.mono (by with_reducible assumption) ?_)) | go_size | (simp at *; omega)))⟩
  · have MU := Lib.hid (l09Mul_any d X Y X Y · hd1 hp hp)
    have HM : Hid (muB d X Y X Y = true → muR d X Y X Y = (muX d X Y X Y, muY X Y X Y)) := Lib.hid (fun h => by unfold muR; rw [h]; rfl)
    have HF0 : Hid (∀ o, lsR d X Y o = if o = true then ((muR d X Y X Y).1, (muR d X Y X Y).2, muB d X Y X Y) else (X, Y, true)) := Lib.hid (fun o => by unfold lsR; rw [hp]; rfl)
    rw [hp] at UN
    clear hp
    generalize muB d X Y X Y = mb at *
    generalize muR d X Y X Y = mr at *
    generalize muX d X Y X Y = mx at *
    generalize muY X Y X Y = my at *
    obtain ⟨m1, m2⟩ := mr
    by_cases ho : n % 2 = 1
    · have HF : Hid (lsR d X Y (odN n) = (m1, m2, mb)) := Lib.hid (by rw [HF0.out]; simp [odN, ho])
      rw [HF.out]
      have hi : ((n : Int).tmod 2) = 1 := by rw [Int.tmod_eq_emod_of_nonneg (by omega)]; omega
      have hi2 : ((n : Int) % 2) = 1 := by omega
      go_enter Tryd.func49, Tryd.ntmps49
      go_wp2_with fail
      refine (UN.out _).mono ?_
      rintro e w1 ⟨x, y, rfl, hxy, hb1⟩
      obtain ⟨rfl, rfl⟩ := hxy rfl
      obtain ⟨hc1, hf1, -, hB1⟩ := bcell hb1; have hz1 := hb1.size; (try simp at hz1); (try have hk1_0 : w.heap.size < w1.heap.size := by omega); (try have hk1_1 : w.heap.size + 1 < w1.heap.size := by omega); (try have hk1_2 : w.heap.size + 1 + 1 < w1.heap.size := by omega); (try have hk1_3 : w.heap.size + 1 + 1 + 1 < w1.heap.size := by omega); (try have hk1_4 : wr.heap.size < w1.heap.size := by omega); (try have hk1_5 : wr.heap.size + 1 < w1.heap.size := by omega)
      go_wp2_with fail; refine (MU.out _).mono ?_; rintro e w2 ⟨rfl, hb2⟩; obtain ⟨hc2, hf2, -, hB2⟩ := bcell hb2; have hz2 := hb2.size; (try simp at hz2); (try have hk2_0 : w.heap.size < w2.heap.size := by omega); (try have hk2_1 : w.heap.size + 1 < w2.heap.size := by omega); (try have hk2_2 : w.heap.size + 1 + 1 < w2.heap.size := by omega); (try have hk2_3 : w.heap.size + 1 + 1 + 1 < w2.heap.size := by omega); (try have hk2_4 : wr.heap.size < w2.heap.size := by omega); (try have hk2_5 : wr.heap.size + 1 < w2.heap.size := by omega); (try have hk2_6 : w1.heap.size < w2.heap.size := by omega); (try have hk2_7 : w1.heap.size + 1 < w2.heap.size := by omega)
      go_wp2_with fail
      apply body_row2 (w.heap.size) 32 Tryd.results49 Tryd.underlying32 rfl rfl rfl; (case q => simp (disch := (first | omega | (simp; done) | (simp; omega))) [*]; try rfl); (case hi => kernel_rfl)
      exact ⟨_, _, rfl, fun h => by have := HM.out h; simp at this; exact ⟨this.1.symm, this.2.symm⟩, (by repeat' (first | (with_reducible exact Below.refl _ _) | (with_reducible assumption) | (with_reducible refine Below.setCell ?_ ?_ _) | (with_reducible refine Below.alloc ?_ ?_ _) | (with_reducible refine Below.drew ?_) | (with_reducible refine below_drewN ?_ _) | (with_reducible refine Below.trans ?_ (Below.mono (by with_reducible assumption) ?_)) | go_size | (simp at *; omega)))⟩
    · have HF : Hid (lsR d X Y (odN n) = (X, Y, true)) := Lib.hid (by rw [HF0.out]; simp [odN, ho])
      rw [HF.out]
      have hi : ¬ ((n : Int).tmod 2) = 1 := by rw [Int.tmod_eq_emod_of_nonneg (by omega)]; omega
      have hi2 : ¬ ((n : Int) % 2) = 1 := by omega
      have hi3 : (n : Int) % 2 = 0 := by omega
      have hi4 : (n : Int).tmod 2 = 0 := by rw [Int.tmod_eq_emod_of_nonneg (by omega)]; omega
      go_enter Tryd.func49, Tryd.ntmps49
      go_wp2_with fail
      refine (UN.out _).mono ?_
      rintro e w1 ⟨x, y, rfl, hxy, hb1⟩
      obtain ⟨rfl, rfl⟩ := hxy rfl
      obtain ⟨hc1, hf1, -, hB1⟩ := bcell hb1; have hz1 := hb1.size; (try simp at hz1); (try have hk1_0 : w.heap.size < w1.heap.size := by omega); (try have hk1_1 : w.heap.size + 1 < w1.heap.size := by omega); (try have hk1_2 : w.heap.size + 1 + 1 < w1.heap.size := by omega); (try have hk1_3 : w.heap.size + 1 + 1 + 1 < w1.heap.size := by omega); (try have hk1_4 : wr.heap.size < w1.heap.size := by omega); (try have hk1_5 : wr.heap.size + 1 < w1.heap.size := by omega)
      go_wp2_with fail
      apply body_row2 (w.heap.size) 32 Tryd.results49 Tryd.underlying32 rfl rfl rfl; (case q => simp (disch := (first | omega | (simp; done) | (simp; omega))) [*]; try rfl); (case hi => kernel_rfl)
      exact ⟨_, _, rfl, fun h => ⟨rfl, rfl⟩, (by repeat' (first | (with_reducible exact Below.refl _ _) | (with_reducible assumption) | (with_reducible refine Below.setCell ?_ ?_ _) | (with_reducible refine Below.alloc ?_ ?_ _) | (with_reducible refine Below.drew ?_) | (with_reducible refine below_drewN ?_ _) | (with_reducible refine Below.trans ?_ (Below.mono (by with_reducible assumption) ?_)) | go_size | (simp at *; omega)))⟩
end Go.Proofs.YtdbbjmcfpfalhaaDoor
