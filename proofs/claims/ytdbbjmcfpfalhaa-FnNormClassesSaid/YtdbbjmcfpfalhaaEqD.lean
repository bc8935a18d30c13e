/- Equations: the least modulus that proves that there is no solution. -/
import Derived.Test.YtdbbjmcfpfalhaaEqC
namespace Go.Proofs.Ytdbbjmcfpfalhaa
open Go.ChangeShapes Go.WideShapes Go.ChangeAt Go.RowKit
set_option linter.unusedVariables false
set_option maxHeartbeats 1000000
def pmF (d n : Int) : Nat → Nat → Int × Int
  | 0, _ => (0, 3)
  | k + 1, m => if noY d n m m 0 = true then ((m : Int), 0) else pmF d n k (m + 1)
theorem pm_no {d n : Int} {k m : Nat} (h : noY d n m m 0 = false) : pmF d n (k + 1) m = pmF d n k (m + 1) := by
  conv => lhs; unfold pmF
  rw [h, if_neg (by simp)]
theorem pm_yes {d n : Int} {k m : Nat} (h : noY d n m m 0 = true) : pmF d n (k + 1) m = ((m : Int), 0) := by
  unfold pmF
  rw [h, if_pos rfl]
def pmR (d n : Int) : Int × Int := if eqC d n = 0 then pmF d n 99 2 else (0, eqC d n)
theorem iProofModulus_any (d n : Int) (w : World) :
    Calls Try.prog 19 #[.int .i64 d, .int .i64 n] w fun e w' => e = .returned (.tuple #[.int .i64 (pmR d n).1, .int .i64 (pmR d n).2]) ∧ Below w.heap.size w w' := by
  by_cases hc : eqC d n = 0
  · obtain ⟨⟨hd, hn, hn0⟩, -⟩ := eqC_zero hc
    have HR : Hid (pmF d n 99 2 = pmR d n) := Lib.hid (by simp [pmR, hc])
    have hcb : (eqC d n == 0) = true := by simp [hc]
    generalize pmR d n = R at *
    go_enter Try.func19, Try.ntmps19
    go_wp2_with (go_at_call 41; refine (checkEquation_any _ _ _).mono ?_; rintro e w1 ⟨rfl, rfl⟩)
    clear hc hcb
    go_loopg [7] 99 (fun k u wr => ∃ m : Nat, u = .int .i64 m ∧ m + k = 101 ∧ 2 ≤ m ∧ Hid (pmF d n k m = R) ∧ Below w.heap.size w wr)
    case atStart => exact ⟨2, rfl, by omega, by omega, HR, Below.refl _ _⟩
    case round =>
      obtain ⟨m, rfl, hmk, hm2, HM, hbel⟩ := hrel
      have hsz := hbel.size
      by_cases hlt : m ≤ 100
      · obtain ⟨k', rfl⟩ : ∃ k', gk = k' + 1 := ⟨gk - 1, by omega⟩
        cases hb : noY d n m m 0
        · have HN : Hid (pmF d n k' (m + 1) = R) := Lib.hid ((pm_no hb).symm.trans HM.out)
          go_wp2_with fail; refine (provesNone_any _ _ _ _ hd hn (by omega)).mono ?_; rintro e w1 ⟨rfl, hb1⟩; obtain ⟨hc1, hf1, -, hB1⟩ := bcell hb1; have hz1 := hb1.size; (try simp at hz1); (try have hk1_0 : w.heap.size < w1.heap.size := by omega); (try have hk1_1 : w.heap.size + 1 < w1.heap.size := by omega); (try have hk1_2 : w.heap.size + 1 + 1 < w1.heap.size := by omega); (try have hk1_3 : w.heap.size + 1 + 1 + 1 < w1.heap.size := by omega); (try have hk1_4 : wr.heap.size < w1.heap.size := by omega); (try have hk1_5 : wr.heap.size + 1 < w1.heap.size := by omega)
          go_wp2_with fail
          go_roundg k'
          case measure => omega
          case rel => exact ⟨m + 1, by go_num, by omega, by omega, HN, (by repeat' (first | (with_reducible exact Below.refl _ _) | (with_reducible assumption) | (with_reducible refine Below.setCell ?_ ?_ _) | (with_reducible refine Below.alloc ?_ ?_ _) | (with_reducible refine Below.drew ?_) | (with_reducible refine below_drewN ?_ _) | (with_reducible refine Below.trans ?_ (Below.mono (by with_reducible assumption) ?_)) | go_size | (simp at *; omega)))⟩
        · have HN : Hid (R = ((m : Int), 0)) := Lib.hid (HM.out.symm.trans (pm_yes hb))
          go_wp2_with fail; refine (provesNone_any _ _ _ _ hd hn (by omega)).mono ?_; rintro e w1 ⟨rfl, hb1⟩; obtain ⟨hc1, hf1, -, hB1⟩ := bcell hb1; have hz1 := hb1.size; (try simp at hz1); (try have hk1_0 : w.heap.size < w1.heap.size := by omega); (try have hk1_1 : w.heap.size + 1 < w1.heap.size := by omega); (try have hk1_2 : w.heap.size + 1 + 1 < w1.heap.size := by omega); (try have hk1_3 : w.heap.size + 1 + 1 + 1 < w1.heap.size := by omega); (try have hk1_4 : wr.heap.size < w1.heap.size := by omega); (try have hk1_5 : wr.heap.size + 1 < w1.heap.size := by omega)
          go_wp2_with fail
          go_ret2
          exact ⟨by rw [HN.out]; rfl, (by repeat' (first | (with_reducible exact Below.refl _ _) | (with_reducible assumption) | (with_reducible refine Below.setCell ?_ ?_ _) | (with_reducible refine Below.alloc ?_ ?_ _) | (with_reducible refine Below.drew ?_) | (with_reducible refine below_drewN ?_ _) | (with_reducible refine Below.trans ?_ (Below.mono (by with_reducible assumption) ?_)) | go_size | (simp at *; omega)))⟩
      · have hk : gk = 0 := by omega
        subst hk
        have HN : Hid (R = (0, 3)) := Lib.hid HM.out.symm
        go_wp2
        go_ret2
        exact ⟨by rw [HN.out]; rfl, (by repeat' (first | (with_reducible exact Below.refl _ _) | (with_reducible assumption) | (with_reducible refine Below.setCell ?_ ?_ _) | (with_reducible refine Below.alloc ?_ ?_ _) | (with_reducible refine Below.drew ?_) | (with_reducible refine below_drewN ?_ _) | (with_reducible refine Below.trans ?_ (Below.mono (by with_reducible assumption) ?_)) | go_size | (simp at *; omega)))⟩
  · have HF : Hid (pmR d n = (0, eqC d n)) := Lib.hid (by simp [pmR, hc])
    have hcb : (eqC d n != 0) = true := by simp [hc]
    clear hc
    go_enter Try.func19, Try.ntmps19
    go_wp2_with (go_at_call 41; refine (checkEquation_any _ _ _).mono ?_; rintro e w1 ⟨rfl, rfl⟩)
    go_ret2
    exact ⟨by rw [HF.out]; rfl, (by repeat' (first | (with_reducible exact Below.refl _ _) | (with_reducible assumption) | (with_reducible refine Below.setCell ?_ ?_ _) | (with_reducible refine Below.alloc ?_ ?_ _) | (with_reducible refine Below.drew ?_) | (with_reducible refine below_drewN ?_ _) | (with_reducible refine Below.trans ?_ (Below.mono (by with_reducible assumption) ?_)) | go_size | (simp at *; omega)))⟩
theorem sProofModulus_any (d n : Int) (w : World) :
    Calls Try.prog 18 #[.int .i64 d, .int .i64 n] w fun e w' => e = .returned (.tuple #[.int .i64 (pmR d n).1, .int .i64 (pmR d n).2]) ∧ Below w.heap.size w w' := by
  by_cases hc : eqC d n = 0
  · obtain ⟨⟨hd, hn, hn0⟩, -⟩ := eqC_zero hc
    have HR : Hid (pmF d n 99 2 = pmR d n) := Lib.hid (by simp [pmR, hc])
    have hcb : (eqC d n == 0) = true := by simp [hc]
    generalize pmR d n = R at *
    go_enter Try.func18, Try.ntmps18
    go_wp2_with (go_at_call 39; refine (l10Code_any _ _ _).mono ?_; rintro e w1 ⟨rfl, rfl⟩)
    clear hc hcb
    go_loopg [7] 99 (fun k u wr => ∃ m : Nat, u = .int .i64 m ∧ m + k = 101 ∧ 2 ≤ m ∧ Hid (pmF d n k m = R) ∧ Below w.heap.size w wr)
    case atStart => exact ⟨2, rfl, by omega, by omega, HR, Below.refl _ _⟩
    case round =>
      obtain ⟨m, rfl, hmk, hm2, HM, hbel⟩ := hrel
      have hsz := hbel.size
      by_cases hlt : m ≤ 100
      · obtain ⟨k', rfl⟩ : ∃ k', gk = k' + 1 := ⟨gk - 1, by omega⟩
        cases hb : noY d n m m 0
        · have HN : Hid (pmF d n k' (m + 1) = R) := Lib.hid ((pm_no hb).symm.trans HM.out)
          go_wp2_with fail; refine (l10Open_any _ _ _ _ hd hn (by omega)).mono ?_; rintro e w1 ⟨rfl, hb1⟩; obtain ⟨hc1, hf1, -, hB1⟩ := bcell hb1; have hz1 := hb1.size; (try simp at hz1); (try have hk1_0 : w.heap.size < w1.heap.size := by omega); (try have hk1_1 : w.heap.size + 1 < w1.heap.size := by omega); (try have hk1_2 : w.heap.size + 1 + 1 < w1.heap.size := by omega); (try have hk1_3 : w.heap.size + 1 + 1 + 1 < w1.heap.size := by omega); (try have hk1_4 : wr.heap.size < w1.heap.size := by omega); (try have hk1_5 : wr.heap.size + 1 < w1.heap.size := by omega)
          go_wp2_with fail
          go_roundg k'
          case measure => omega
          case rel => exact ⟨m + 1, by go_num, by omega, by omega, HN, (by repeat' (first | (with_reducible exact Below.refl _ _) | (with_reducible assumption) | (with_reducible refine Below.setCell ?_ ?_ _) | (with_reducible refine Below.alloc ?_ ?_ _) | (with_reducible refine Below.drew ?_) | (with_reducible refine below_drewN ?_ _) | (with_reducible refine Below.trans ?_ (Below.mono (by with_reducible assumption) ?_)) | go_size | (simp at *; omega)))⟩
        · have HN : Hid (R = ((m : Int), 0)) := Lib.hid (HM.out.symm.trans (pm_yes hb))
          go_wp2_with fail; refine (l10Open_any _ _ _ _ hd hn (by omega)).mono ?_; rintro e w1 ⟨rfl, hb1⟩; obtain ⟨hc1, hf1, -, hB1⟩ := bcell hb1; have hz1 := hb1.size; (try simp at hz1); (try have hk1_0 : w.heap.size < w1.heap.size := by omega); (try have hk1_1 : w.heap.size + 1 < w1.heap.size := by omega); (try have hk1_2 : w.heap.size + 1 + 1 < w1.heap.size := by omega); (try have hk1_3 : w.heap.size + 1 + 1 + 1 < w1.heap.size := by omega); (try have hk1_4 : wr.heap.size < w1.heap.size := by omega); (try have hk1_5 : wr.heap.size + 1 < w1.heap.size := by omega)
          go_wp2_with fail
          go_ret2
          exact ⟨by rw [HN.out]; rfl, (by repeat' (first | (with_reducible exact Below.refl _ _) | (with_reducible assumption) | (with_reducible refine Below.setCell ?_ ?_ _) | (with_reducible refine Below.alloc ?_ ?_ _) | (with_reducible refine Below.drew ?_) | (with_reducible refine below_drewN ?_ _) | (with_reducible refine Below.trans ?_ (Below.mono (by with_reducible assumption) ?_)) | go_size | (simp at *; omega)))⟩
      · have hk : gk = 0 := by omega
        subst hk
        have HN : Hid (R = (0, 3)) := Lib.hid HM.out.symm
        go_wp2
        go_ret2
        exact ⟨by rw [HN.out]; rfl, (by repeat' (first | (with_reducible exact Below.refl _ _) | (with_reducible assumption) | (with_reducible refine Below.setCell ?_ ?_ _) | (with_reducible refine Below.alloc ?_ ?_ _) | (with_reducible refine Below.drew ?_) | (with_reducible refine below_drewN ?_ _) | (with_reducible refine Below.trans ?_ (Below.mono (by with_reducible assumption) ?_)) | go_size | (simp at *; omega)))⟩
  · have HF : Hid (pmR d n = (0, eqC d n)) := Lib.hid (by simp [pmR, hc])
    have hcb : (eqC d n != 0) = true := by simp [hc]
    clear hc
    go_enter Try.func18, Try.ntmps18
    go_wp2_with (go_at_call 39; refine (l10Code_any _ _ _).mono ?_; rintro e w1 ⟨rfl, rfl⟩)
    go_ret2
    exact ⟨by rw [HF.out]; rfl, (by repeat' (first | (with_reducible exact Below.refl _ _) | (with_reducible assumption) | (with_reducible refine Below.setCell ?_ ?_ _) | (with_reducible refine Below.alloc ?_ ?_ _) | (with_reducible refine Below.drew ?_) | (with_reducible refine below_drewN ?_ _) | (with_reducible refine Below.trans ?_ (Below.mono (by with_reducible assumption) ?_)) | go_size | (simp at *; omega)))⟩
theorem walk_FnExactProofModulus (d : Int) (wd : (Lit.int .i64 d).wf = true) (n : Int) (wn : (Lit.int .i64 n).wf = true) (w : World) :
    Calls Try.prog 5 #[.int .i64 d, .int .i64 n] w fun e' w' => e' = .returned (.bool true) ∧ Below w.heap.size w w' := by
  go_enter Try.func5, Try.ntmps5
  go_wp2_with fail; refine (sProofModulus_any _ _ _).mono ?_; rintro e w1 ⟨rfl, hb1⟩; obtain ⟨hc1, hf1, -, hB1⟩ := bcell hb1; have hz1 := hb1.size; (try simp at hz1); (try have hk1_0 : w.heap.size < w1.heap.size := by omega); (try have hk1_1 : w.heap.size + 1 < w1.heap.size := by omega); (try have hk1_2 : w.heap.size + 1 + 1 < w1.heap.size := by omega); (try have hk1_3 : w.heap.size + 1 + 1 + 1 < w1.heap.size := by omega); (try have hk1_4 : wr.heap.size < w1.heap.size := by omega); (try have hk1_5 : wr.heap.size + 1 < w1.heap.size := by omega)
  go_wp2_with fail; refine (iProofModulus_any _ _ _).mono ?_; rintro e w2 ⟨rfl, hb2⟩; obtain ⟨hc2, hf2, -, hB2⟩ := bcell hb2; have hz2 := hb2.size; (try simp at hz2); (try have hk2_0 : w.heap.size < w2.heap.size := by omega); (try have hk2_1 : w.heap.size + 1 < w2.heap.size := by omega); (try have hk2_2 : w.heap.size + 1 + 1 < w2.heap.size := by omega); (try have hk2_3 : w.heap.size + 1 + 1 + 1 < w2.heap.size := by omega); (try have hk2_4 : wr.heap.size < w2.heap.size := by omega); (try have hk2_5 : wr.heap.size + 1 < w2.heap.size := by omega); (try have hk2_6 : w1.heap.size < w2.heap.size := by omega); (try have hk2_7 : w1.heap.size + 1 < w2.heap.size := by omega)
  go_wp2_with fail
  go_returns
  exact ⟨rfl, (by repeat' (first | (with_reducible exact Below.refl _ _) | (with_reducible assumption) | (with_reducible refine Below.setCell ?_ ?_ _) | (with_reducible refine Below.alloc ?_ ?_ _) | (with_reducible refine Below.drew ?_) | (with_reducible refine below_drewN ?_ _) | (with_reducible refine Below.trans ?_ (Below.mono (by with_reducible assumption) ?_)) | go_size | (simp at *; omega)))⟩
end Go.Proofs.Ytdbbjmcfpfalhaa
