/- The text form of an equation: both packages, and the law. -/
import Derived.Test.YtdbbjmcfpfalhaaDoorDec
import Derived.Test.YtdbbjmcfpfalhaaDoorEqA
namespace Go.Proofs.YtdbbjmcfpfalhaaDoor
open Go.ChangeShapes Go.WideShapes Go.ChangeAt Go.RowKit
set_option linter.unusedVariables false
set_option maxHeartbeats 8000000
set_option maxRecDepth 20000
theorem itoa_len {n : Int} (hn : -9223372036854775808 ≤ n ∧ n ≤ 9223372036854775807) : (Lib.itoa n).toArray.size ≤ 20 := by
  have h := dg_len 19 n.natAbs (by omega)
  rw [itoa_of]
  split
  · simp
  · split
    · simp; omega
    · simp; omega
/-- The text of an equation. -/
def etR (d n : Int) : ByteArray := if eqC d n = 0 then ((⟨#[120, 94, 50, 32, 45, 32]⟩ ++ ⟨(Lib.itoa d).toArray⟩) ++ ⟨#[32, 42, 32, 121, 94, 50, 32, 61, 32]⟩) ++ ⟨(Lib.itoa n).toArray⟩ else ⟨#[]⟩
theorem iET_any (d n : Int) (hd : -9223372036854775808 ≤ d ∧ d ≤ 9223372036854775807) (hn : -9223372036854775808 ≤ n ∧ n ≤ 9223372036854775807) (w : World) (ht : Tab w) :
    Calls Tryd.prog 6 #[.int .i64 d, .int .i64 n] w fun e w' => e = .returned (.string (etR d n)) ∧ Below w.heap.size w w' := by
  have HT := Lib.hid ht
  have CE := Lib.hid (checkEquation_any d n)
  have D1 := Lib.hid (decimal_any d hd)
  have D2 := Lib.hid (decimal_any n hn)
  clear ht
  by_cases hc : eqC d n = 0
  · have HF : Hid (etR d n = ((⟨#[120, 94, 50, 32, 45, 32]⟩ ++ ⟨(Lib.itoa d).toArray⟩) ++ ⟨#[32, 42, 32, 121, 94, 50, 32, 61, 32]⟩) ++ ⟨(Lib.itoa n).toArray⟩) := Lib.hid (by unfold etR; rw [if_pos hc])
    rw [hc] at CE
    generalize etR d n = R at *
    have l1 := itoa_len hd
    have l2 := itoa_len hn
    generalize (Lib.itoa d).toArray = A1 at *
    generalize (Lib.itoa n).toArray = A2 at *
    clear hc
    go_enter Tryd.func6, Tryd.ntmps6
    go_wp2_with (go_at_call 23; refine (CE.out _).mono ?_; rintro e w1 ⟨rfl, rfl⟩)
    refine (D1.out _ HT.out).mono ?_
    rintro e w1 ⟨rfl, hb1⟩
    go_wp2_with fail
    refine (D2.out _ (HT.out.below hb1)).mono ?_
    rintro e w2 ⟨rfl, hb2⟩
    have hb := hb1.trans (hb2.mono hb1.size)
    go_wp2_with fail
    go_ret
    exact ⟨by rw [HF.out]; rfl, hb⟩
  · have HF : Hid (etR d n = ⟨#[]⟩) := Lib.hid (by unfold etR; rw [if_neg hc])
    have hcb : (eqC d n != 0) = true := by simp [hc]
    generalize eqC d n = C at *
    go_enter Tryd.func6, Tryd.ntmps6
    go_wp2_with (go_at_call 23; refine (CE.out _).mono ?_; rintro e w1 ⟨rfl, rfl⟩)
    go_ret
    exact ⟨by rw [HF.out]; rfl, (by repeat' (first | (with_reducible exact Below.refl _ _) | (with_reducible assumption) | (with_reducible refine Below.setCell ?_ ?_ _) | (with_reducible refine Below.alloc ?_ ?_ _) | (with_reducible refine Below.drew ?_) | (with_reducible refine below_drewN ?_ _) | (with_reducible refine Below.trans ?_ (Below.mono (by with_reducible assumption) ?_)) | go_size | (simp at *; omega)))⟩
theorem sET_any (d n : Int) (hd : -9223372036854775808 ≤ d ∧ d ≤ 9223372036854775807) (hn : -9223372036854775808 ≤ n ∧ n ≤ 9223372036854775807) (w : World) :
    Calls Tryd.prog 5 #[.int .i64 d, .int .i64 n] w fun e w' => e = .returned (.string (etR d n)) ∧ Below w.heap.size w w' := by
  have CE := Lib.hid (l10Code_any d n)
  have D1 := Lib.hid (l01Dec_any d hd)
  have D2 := Lib.hid (l01Dec_any n hn)
  by_cases hc : eqC d n = 0
  · have HF : Hid (etR d n = ((⟨#[120, 94, 50, 32, 45, 32]⟩ ++ ⟨(Lib.itoa d).toArray⟩) ++ ⟨#[32, 42, 32, 121, 94, 50, 32, 61, 32]⟩) ++ ⟨(Lib.itoa n).toArray⟩) := Lib.hid (by unfold etR; rw [if_pos hc])
    rw [hc] at CE
    generalize etR d n = R at *
    have l1 := itoa_len hd
    have l2 := itoa_len hn
    generalize (Lib.itoa d).toArray = A1 at *
    generalize (Lib.itoa n).toArray = A2 at *
    clear hc
    go_enter Tryd.func5, Tryd.ntmps5
    go_wp2_with (go_at_call 21; refine (CE.out _).mono ?_; rintro e w1 ⟨rfl, rfl⟩)
    refine (D1.out _).mono ?_
    rintro e w1 ⟨rfl, hb1⟩
    go_wp2_with fail
    refine (D2.out _).mono ?_
    rintro e w2 ⟨rfl, hb2⟩
    have hb := hb1.trans (hb2.mono hb1.size)
    go_wp2_with fail
    go_ret
    exact ⟨by rw [HF.out]; rfl, hb⟩
  · have HF : Hid (etR d n = ⟨#[]⟩) := Lib.hid (by unfold etR; rw [if_neg hc])
    have hcb : (eqC d n != 0) = true := by simp [hc]
    generalize eqC d n = C at *
    go_enter Tryd.func5, Tryd.ntmps5
    go_wp2_with (go_at_call 21; refine (CE.out _).mono ?_; rintro e w1 ⟨rfl, rfl⟩)
    go_ret
    exact ⟨by rw [HF.out]; rfl, (by repeat' (first | (with_reducible exact Below.refl _ _) | (with_reducible assumption) | (with_reducible refine Below.setCell ?_ ?_ _) | (with_reducible refine Below.alloc ?_ ?_ _) | (with_reducible refine Below.drew ?_) | (with_reducible refine below_drewN ?_ _) | (with_reducible refine Below.trans ?_ (Below.mono (by with_reducible assumption) ?_)) | go_size | (simp at *; omega)))⟩
theorem wfb {a : Int} (h : (Lit.int .i64 a).wf = true) : -9223372036854775808 ≤ a ∧ a ≤ 9223372036854775807 := by
  have e1 : IntKind.i64.min = -9223372036854775808 := by decide
  have e2 : IntKind.i64.max = 9223372036854775807 := by decide
  simp [Lit.wf, e1, e2] at h
  omega
theorem walk_FnExactEquationText (d : Int) (wd : (Lit.int .i64 d).wf = true) (n : Int) (wn : (Lit.int .i64 n).wf = true) (w : World) (ht : Tab w) :
    Calls Tryd.prog 3 #[.int .i64 d, .int .i64 n] w fun e w' => e = .returned (.bool true) ∧ Below w.heap.size w w' := by
  have HT := Lib.hid ht
  have E1 := Lib.hid (sET_any d n (wfb wd) (wfb wn))
  have E2 := Lib.hid (iET_any d n (wfb wd) (wfb wn))
  generalize etR d n = R at *
  clear ht
  go_enter Tryd.func3, Tryd.ntmps3
  go_wp2_with fail
  refine (E1.out _).mono ?_
  rintro e w1 ⟨rfl, hb1⟩
  go_wp2_with fail
  refine (E2.out _ (HT.out.below hb1)).mono ?_
  rintro e w2 ⟨rfl, hb2⟩
  have hb := hb1.trans (hb2.mono hb1.size)
  go_wp2_with fail
  go_ret
  exact ⟨rfl, hb⟩
end Go.Proofs.YtdbbjmcfpfalhaaDoor
