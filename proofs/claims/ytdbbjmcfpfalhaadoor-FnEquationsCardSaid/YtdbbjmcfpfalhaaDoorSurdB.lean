/- Surds of a root's period are valid: both packages. -/
import Derived.Test.YtdbbjmcfpfalhaaDoorSurd
namespace Go.Proofs.YtdbbjmcfpfalhaaDoor
open Go.ChangeShapes Go.WideShapes Go.ChangeAt Go.RowKit
set_option linter.unusedVariables false
set_option maxHeartbeats 1000000
theorem validSurd_yes (p d q : Int) (w : World) (hp : 0 ≤ p ∧ p ≤ 1000) (hd : 2 ≤ d ∧ d ≤ 1000000) (hs : sqB d = false) (hq : 0 < q ∧ q ≤ 1000000) (ht : (d - p * p).tmod q = 0) :
    Calls Tryd.prog 89 #[.agg #[.int .i64 p, .int .i64 d, .int .i64 q]] w fun e w' => e = .returned (.bool true) ∧ Below w.heap.size w w' := by
  have H1 := Lib.hid (inR_yes (n := d) (lo := 2) (hi := 1000000) hd.1 hd.2)
  have H2 := Lib.hid (inR_yes (n := p) (lo := -1000000) (hi := 1000000) (by omega) (by omega))
  have H3 := Lib.hid (inR_yes (n := q) (lo := -1000000) (hi := 1000000) (by omega) (by omega))
  have SQ := Lib.hid (by have h := isSquare_any d · (by omega); rw [hs] at h; exact h)
  have m0 : 0 ≤ p * p := Int.mul_nonneg hp.1 hp.1
  have m1 : p * p ≤ 1000 * 1000 := Int.mul_le_mul hp.2 hp.2 hp.1 (by omega)
  have v1 : IntKind.i64.wrap (p * p) = p * p := IntWalk.i64_in _ (by omega)
  have v2 : IntKind.i64.wrap (d - p * p) = d - p * p := IntWalk.i64_in _ (by omega)
  have hn : ¬ q = 0 := by omega
  have hnb : (q == 0) = false := by simp [hn]
  clear hs
  go_enter Tryd.func89, Tryd.ntmps89
  go_wp2_with ((first | (go_at_call 30; first | (with_reducible refine (within_is H1.out _).mono ?_) | (with_reducible refine (within_is H2.out _).mono ?_) | (with_reducible refine (within_is H3.out _).mono ?_)) | (go_at_call 45; refine (SQ.out _).mono ?_)); rintro e w1 ⟨rfl, rfl⟩)
  go_ret
  exact ⟨rfl, (by repeat' (first | (with_reducible exact Below.refl _ _) | (with_reducible assumption) | (with_reducible refine Below.setCell ?_ ?_ _) | (with_reducible refine Below.alloc ?_ ?_ _) | (with_reducible refine Below.drew ?_) | (with_reducible refine below_drewN ?_ _) | (with_reducible refine Below.trans ?_ (Below.mono (by with_reducible assumption) ?_)) | go_size | (simp at *; omega)))⟩
theorem l07Ok_yes (p d q : Int) (w : World) (hp : 0 ≤ p ∧ p ≤ 1000) (hd : 2 ≤ d ∧ d ≤ 1000000) (hs : sqB d = false) (hq : 0 < q ∧ q ≤ 1000000) (ht : (d - p * p).tmod q = 0) :
    Calls Tryd.prog 86 #[.agg #[.int .i64 p, .int .i64 d, .int .i64 q]] w fun e w' => e = .returned (.bool true) ∧ Below w.heap.size w w' := by
  have H1 := Lib.hid (inR_yes (n := d) (lo := 2) (hi := 1000000) hd.1 hd.2)
  have H2 := Lib.hid (inR_yes (n := p) (lo := -1000000) (hi := 1000000) (by omega) (by omega))
  have H3 := Lib.hid (inR_yes (n := q) (lo := -1000000) (hi := 1000000) (by omega) (by omega))
  have I1 := Lib.hid (by have h := in_any d 2 1000000; rw [H1.out] at h; exact h)
  have I2 := Lib.hid (by have h := in_any p (-1000000) 1000000; rw [H2.out] at h; exact h)
  have I3 := Lib.hid (by have h := in_any q (-1000000) 1000000; rw [H3.out] at h; exact h)
  have SQ := Lib.hid (by have h := l07Square_any d · (by omega); rw [hs] at h; exact h)
  have m0 : 0 ≤ p * p := Int.mul_nonneg hp.1 hp.1
  have m1 : p * p ≤ 1000 * 1000 := Int.mul_le_mul hp.2 hp.2 hp.1 (by omega)
  have v1 : IntKind.i64.wrap (p * p) = p * p := IntWalk.i64_in _ (by omega)
  have v2 : IntKind.i64.wrap (d - p * p) = d - p * p := IntWalk.i64_in _ (by omega)
  have hn : ¬ q = 0 := by omega
  have hnb : (q == 0) = false := by simp [hn]
  clear hs
  go_enter Tryd.func86, Tryd.ntmps86
  go_wp2_with ((first | (go_at_call 33; first | (with_reducible refine (I1.out _).mono ?_) | (with_reducible refine (I2.out _).mono ?_) | (with_reducible refine (I3.out _).mono ?_)) | (go_at_call 44; refine (SQ.out _).mono ?_)); rintro e w1 ⟨rfl, rfl⟩)
  go_ret
  exact ⟨rfl, (by repeat' (first | (with_reducible exact Below.refl _ _) | (with_reducible assumption) | (with_reducible refine Below.setCell ?_ ?_ _) | (with_reducible refine Below.alloc ?_ ?_ _) | (with_reducible refine Below.drew ?_) | (with_reducible refine below_drewN ?_ _) | (with_reducible refine Below.trans ?_ (Below.mono (by with_reducible assumption) ?_)) | go_size | (simp at *; omega)))⟩
end Go.Proofs.YtdbbjmcfpfalhaaDoor
