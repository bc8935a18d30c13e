/- Surds (P + root D) / Q with Q > 0: floors, both packages. -/
import Derived.Test.YtdbbjmcfpfalhaaDoorEqF
namespace Go.Proofs.YtdbbjmcfpfalhaaDoor
open Go.ChangeShapes Go.WideShapes Go.ChangeAt Go.RowKit
set_option linter.unusedVariables false
set_option maxHeartbeats 1000000
theorem rt1000 {d : Int} (h : 0 ≤ d ∧ d ≤ 1000000) : 0 ≤ rt d ∧ rt d ≤ 1000 :=
  ⟨(rt_spec h.1 (by omega)).1, rt_le h.1 (by omega) (by omega) (by omega)⟩
theorem floorSurd_any (p d q : Int) (w : World) (hp : -1000000 ≤ p ∧ p ≤ 1000000) (hd : 0 ≤ d ∧ d ≤ 1000000) (hq : 0 < q ∧ q ≤ 1000000) :
    Calls Tryd.prog 82 #[.agg #[.int .i64 p, .int .i64 d, .int .i64 q]] w fun e w' => e = .returned (.int .i64 (fl (p + rt d) q)) ∧ Below w.heap.size w w' := by
  have hr := rt1000 hd
  have RT := Lib.hid (root_any d · (by omega) (by omega))
  generalize rt d = r at *
  go_enter Tryd.func82, Tryd.ntmps82
  go_wp2_with (first | (go_at_call 37; refine (RT.out _).mono ?_; rintro e w1 ⟨rfl, rfl⟩) | (go_at_call 88; refine (floorDiv_any _ _ _ (by omega) (by omega) (by omega)).mono ?_; rintro e w1 ⟨rfl, rfl⟩))
  go_ret
  exact ⟨rfl, (by repeat' (first | (with_reducible exact Below.refl _ _) | (with_reducible assumption) | (with_reducible refine Below.setCell ?_ ?_ _) | (with_reducible refine Below.alloc ?_ ?_ _) | (with_reducible refine Below.drew ?_) | (with_reducible refine below_drewN ?_ _) | (with_reducible refine Below.trans ?_ (Below.mono (by with_reducible assumption) ?_)) | go_size | (simp at *; omega)))⟩
theorem l07Floor_any (p d q : Int) (w : World) (hp : -1000000 ≤ p ∧ p ≤ 1000000) (hd : 0 ≤ d ∧ d ≤ 1000000) (hq : 0 < q ∧ q ≤ 1000000) :
    Calls Tryd.prog 78 #[.agg #[.int .i64 p, .int .i64 d, .int .i64 q]] w fun e w' => e = .returned (.int .i64 (fl (p + rt d) q)) ∧ Below w.heap.size w w' := by
  have hr := rt1000 hd
  have RT := Lib.hid (l07Root_any d · (by omega))
  generalize rt d = r at *
  go_enter Tryd.func78, Tryd.ntmps78
  go_wp2_with (first | (go_at_call 48; refine (RT.out _).mono ?_; rintro e w1 ⟨rfl, rfl⟩) | (go_at_call 85; refine (l02Floor_any _ _ _ (by omega) (by omega) (by omega)).mono ?_; rintro e w1 ⟨rfl, rfl⟩))
  go_ret
  exact ⟨rfl, (by repeat' (first | (with_reducible exact Below.refl _ _) | (with_reducible assumption) | (with_reducible refine Below.setCell ?_ ?_ _) | (with_reducible refine Below.alloc ?_ ?_ _) | (with_reducible refine Below.drew ?_) | (with_reducible refine below_drewN ?_ _) | (with_reducible refine Below.trans ?_ (Below.mono (by with_reducible assumption) ?_)) | go_size | (simp at *; omega)))⟩
end Go.Proofs.YtdbbjmcfpfalhaaDoor
