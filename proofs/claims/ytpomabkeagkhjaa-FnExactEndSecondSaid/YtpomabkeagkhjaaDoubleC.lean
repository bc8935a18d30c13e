/- Operations' functions, and the states that are left when a list has ended: the program's own functions. -/
import Derived.Test.YtpomabkeagkhjaaDoubleB
namespace Go.Proofs.Ytpomabkeagkhjaa
open Go.ChangeShapes Go.WideShapes Go.ChangeAt Go.RowKit
set_option linter.unusedVariables false
set_option maxHeartbeats 1000000
theorem endDouble_first (a b c d e f g h : Int) (w : World) :
    Calls Try.prog 60 #[.agg #[.int .i64 a, .int .i64 b, .int .i64 c, .int .i64 d, .int .i64 e, .int .i64 f, .int .i64 g, .int .i64 h], .func (.func 61) #[] #[]] w fun e' w' => e' = .returned (.tuple #[.agg #[.int .i64 (leftF (vD a b c d e f g h) a b e f).1.a, .int .i64 (leftF (vD a b c d e f g h) a b e f).1.b, .int .i64 (leftF (vD a b c d e f g h) a b e f).1.c, .int .i64 (leftF (vD a b c d e f g h) a b e f).1.d], .int .i64 (leftF (vD a b c d e f g h) a b e f).2]) ∧ Below w.heap.size w w' := by
  cases hv : vD a b c d e f g h
  · go_enter Try.func60, Try.ntmps60
    go_wp2_with (go_at_call 26; refine (validDouble_any _ _ _ _ _ _ _ _ _).mono ?_; rintro e w1 ⟨rfl, hb1⟩; obtain ⟨hc1, hf1, -, hB1⟩ := bcell hb1; have hz1 := hb1.size; (try simp at hz1); (try have hk0 : w.heap.size < w1.heap.size := by omega); (try have hk1 : w.heap.size + 1 < w1.heap.size := by omega); (try have hk2 : w.heap.size + 1 + 1 < w1.heap.size := by omega))
    have q : heapAt w1 (w.heap.size + 1) = some (.cells #[.int .i64 0, .int .i64 0, .int .i64 0, .int .i64 0] 27 (0, 0)) := (by simp [*]); refine bodyPost_ret (ret_row2 Try.results60 _ _ _ _ _ _ _ rfl (heap_setCell_same _ _ 3 _ _ _ (heap_setCell_same _ _ 2 _ _ _ (heap_setCell_same _ _ 1 _ _ _ (heap_setCell_same _ _ 0 _ _ _ q)))) Try.underlying27 rfl (by kernel_rfl)) rfl ?_
    exact ⟨by simp [leftF, zS], (by repeat' (first | (with_reducible exact Below.refl _ _) | (with_reducible assumption) | (with_reducible refine Below.setCell ?_ ?_ _) | (with_reducible refine Below.alloc ?_ ?_ _) | (with_reducible refine Below.drew ?_) | (with_reducible refine Below.trans ?_ (Below.mono (by with_reducible assumption) ?_)) | go_size | (simp at *; omega)))⟩
  · cases hs : vS a b e f
    all_goals
      go_enter Try.func60, Try.ntmps60
      go_wp2_with (first | (go_at_call 26; refine (validDouble_any _ _ _ _ _ _ _ _ _).mono ?_; rintro e w1 ⟨rfl, hb1⟩; obtain ⟨hc1, hf1, -, hB1⟩ := bcell hb1; have hz1 := hb1.size; (try simp at hz1); (try have hk0 : w.heap.size < w1.heap.size := by omega); (try have hk1 : w.heap.size + 1 < w1.heap.size := by omega); (try have hk2 : w.heap.size + 1 + 1 < w1.heap.size := by omega)) | (go_at_call 61; refine (leftFirst_any _ _ _ _ _ _ _ _ _).mono ?_; rintro e w1 ⟨rfl, hb1⟩; obtain ⟨hc1, hf1, -, hB1⟩ := bcell hb1; have hz1 := hb1.size; (try simp at hz1); (try have hk0 : w.heap.size < w1.heap.size := by omega); (try have hk1 : w.heap.size + 1 < w1.heap.size := by omega); (try have hk2 : w.heap.size + 1 + 1 < w1.heap.size := by omega)) | (go_at_call 19; refine (validState_any _ _ _ _ _).mono ?_; rintro e w1 ⟨rfl, hb1⟩; obtain ⟨hc1, hf1, -, hB1⟩ := bcell hb1; have hz1 := hb1.size; (try simp at hz1); (try have hk0 : w.heap.size < w1.heap.size := by omega); (try have hk1 : w.heap.size + 1 < w1.heap.size := by omega); (try have hk2 : w.heap.size + 1 + 1 < w1.heap.size := by omega)))
      have q : heapAt w1 (w.heap.size + 1) = some (.cells #[.int .i64 0, .int .i64 0, .int .i64 0, .int .i64 0] 27 (0, 0)) := (by simp [*]); refine bodyPost_ret (ret_row2 Try.results60 _ _ _ _ _ _ _ rfl (heap_setCell_same _ _ 3 _ _ _ (heap_setCell_same _ _ 2 _ _ _ (heap_setCell_same _ _ 1 _ _ _ (heap_setCell_same _ _ 0 _ _ _ q)))) Try.underlying27 rfl (by kernel_rfl)) rfl ?_
      exact ⟨by simp [leftF, hs, zS], (by repeat' (first | (with_reducible exact Below.refl _ _) | (with_reducible assumption) | (with_reducible refine Below.setCell ?_ ?_ _) | (with_reducible refine Below.alloc ?_ ?_ _) | (with_reducible refine Below.drew ?_) | (with_reducible refine Below.trans ?_ (Below.mono (by with_reducible assumption) ?_)) | go_size | (simp at *; omega)))⟩
theorem endDouble_second (a b c d e f g h : Int) (w : World) :
    Calls Try.prog 60 #[.agg #[.int .i64 a, .int .i64 b, .int .i64 c, .int .i64 d, .int .i64 e, .int .i64 f, .int .i64 g, .int .i64 h], .func (.func 62) #[] #[]] w fun e' w' => e' = .returned (.tuple #[.agg #[.int .i64 (leftF (vD a b c d e f g h) a c e g).1.a, .int .i64 (leftF (vD a b c d e f g h) a c e g).1.b, .int .i64 (leftF (vD a b c d e f g h) a c e g).1.c, .int .i64 (leftF (vD a b c d e f g h) a c e g).1.d], .int .i64 (leftF (vD a b c d e f g h) a c e g).2]) ∧ Below w.heap.size w w' := by
  cases hv : vD a b c d e f g h
  · go_enter Try.func60, Try.ntmps60
    go_wp2_with (go_at_call 26; refine (validDouble_any _ _ _ _ _ _ _ _ _).mono ?_; rintro e w1 ⟨rfl, hb1⟩; obtain ⟨hc1, hf1, -, hB1⟩ := bcell hb1; have hz1 := hb1.size; (try simp at hz1); (try have hk0 : w.heap.size < w1.heap.size := by omega); (try have hk1 : w.heap.size + 1 < w1.heap.size := by omega); (try have hk2 : w.heap.size + 1 + 1 < w1.heap.size := by omega))
    have q : heapAt w1 (w.heap.size + 1) = some (.cells #[.int .i64 0, .int .i64 0, .int .i64 0, .int .i64 0] 27 (0, 0)) := (by simp [*]); refine bodyPost_ret (ret_row2 Try.results60 _ _ _ _ _ _ _ rfl (heap_setCell_same _ _ 3 _ _ _ (heap_setCell_same _ _ 2 _ _ _ (heap_setCell_same _ _ 1 _ _ _ (heap_setCell_same _ _ 0 _ _ _ q)))) Try.underlying27 rfl (by kernel_rfl)) rfl ?_
    exact ⟨by simp [leftF, zS], (by repeat' (first | (with_reducible exact Below.refl _ _) | (with_reducible assumption) | (with_reducible refine Below.setCell ?_ ?_ _) | (with_reducible refine Below.alloc ?_ ?_ _) | (with_reducible refine Below.drew ?_) | (with_reducible refine Below.trans ?_ (Below.mono (by with_reducible assumption) ?_)) | go_size | (simp at *; omega)))⟩
  · cases hs : vS a c e g
    all_goals
      go_enter Try.func60, Try.ntmps60
      go_wp2_with (first | (go_at_call 26; refine (validDouble_any _ _ _ _ _ _ _ _ _).mono ?_; rintro e w1 ⟨rfl, hb1⟩; obtain ⟨hc1, hf1, -, hB1⟩ := bcell hb1; have hz1 := hb1.size; (try simp at hz1); (try have hk0 : w.heap.size < w1.heap.size := by omega); (try have hk1 : w.heap.size + 1 < w1.heap.size := by omega); (try have hk2 : w.heap.size + 1 + 1 < w1.heap.size := by omega)) | (go_at_call 62; refine (leftSecond_any _ _ _ _ _ _ _ _ _).mono ?_; rintro e w1 ⟨rfl, hb1⟩; obtain ⟨hc1, hf1, -, hB1⟩ := bcell hb1; have hz1 := hb1.size; (try simp at hz1); (try have hk0 : w.heap.size < w1.heap.size := by omega); (try have hk1 : w.heap.size + 1 < w1.heap.size := by omega); (try have hk2 : w.heap.size + 1 + 1 < w1.heap.size := by omega)) | (go_at_call 19; refine (validState_any _ _ _ _ _).mono ?_; rintro e w1 ⟨rfl, hb1⟩; obtain ⟨hc1, hf1, -, hB1⟩ := bcell hb1; have hz1 := hb1.size; (try simp at hz1); (try have hk0 : w.heap.size < w1.heap.size := by omega); (try have hk1 : w.heap.size + 1 < w1.heap.size := by omega); (try have hk2 : w.heap.size + 1 + 1 < w1.heap.size := by omega)))
      have q : heapAt w1 (w.heap.size + 1) = some (.cells #[.int .i64 0, .int .i64 0, .int .i64 0, .int .i64 0] 27 (0, 0)) := (by simp [*]); refine bodyPost_ret (ret_row2 Try.results60 _ _ _ _ _ _ _ rfl (heap_setCell_same _ _ 3 _ _ _ (heap_setCell_same _ _ 2 _ _ _ (heap_setCell_same _ _ 1 _ _ _ (heap_setCell_same _ _ 0 _ _ _ q)))) Try.underlying27 rfl (by kernel_rfl)) rfl ?_
      exact ⟨by simp [leftF, hs, zS], (by repeat' (first | (with_reducible exact Below.refl _ _) | (with_reducible assumption) | (with_reducible refine Below.setCell ?_ ?_ _) | (with_reducible refine Below.alloc ?_ ?_ _) | (with_reducible refine Below.drew ?_) | (with_reducible refine Below.trans ?_ (Below.mono (by with_reducible assumption) ?_)) | go_size | (simp at *; omega)))⟩
theorem endFirst_any (a b c d e f g h : Int) (w : World) :
    Calls Try.prog 40 #[.agg #[.int .i64 a, .int .i64 b, .int .i64 c, .int .i64 d, .int .i64 e, .int .i64 f, .int .i64 g, .int .i64 h]] w fun e' w' => e' = .returned (.tuple #[.agg #[.int .i64 (leftF (vD a b c d e f g h) a b e f).1.a, .int .i64 (leftF (vD a b c d e f g h) a b e f).1.b, .int .i64 (leftF (vD a b c d e f g h) a b e f).1.c, .int .i64 (leftF (vD a b c d e f g h) a b e f).1.d], .int .i64 (leftF (vD a b c d e f g h) a b e f).2]) ∧ Below w.heap.size w w' := by
  go_enter Try.func40, Try.ntmps40
  go_wp2_with (go_at_call 60; refine (endDouble_first _ _ _ _ _ _ _ _ _).mono ?_; rintro e w1 ⟨rfl, hb1⟩; obtain ⟨hc1, hf1, -, hB1⟩ := bcell hb1; have hz1 := hb1.size; (try simp at hz1); (try have hk0 : w.heap.size < w1.heap.size := by omega); (try have hk1 : w.heap.size + 1 < w1.heap.size := by omega); (try have hk2 : w.heap.size + 1 + 1 < w1.heap.size := by omega))
  have q : heapAt w1 (w.heap.size + 1) = some (.cells #[.int .i64 0, .int .i64 0, .int .i64 0, .int .i64 0] 27 (0, 0)) := (by simp [*]); refine bodyPost_ret (ret_row2 Try.results40 _ _ _ _ _ _ _ rfl (heap_setCell_same _ _ 3 _ _ _ (heap_setCell_same _ _ 2 _ _ _ (heap_setCell_same _ _ 1 _ _ _ (heap_setCell_same _ _ 0 _ _ _ q)))) Try.underlying27 rfl (by kernel_rfl)) rfl ?_
  exact ⟨rfl, (by repeat' (first | (with_reducible exact Below.refl _ _) | (with_reducible assumption) | (with_reducible refine Below.setCell ?_ ?_ _) | (with_reducible refine Below.alloc ?_ ?_ _) | (with_reducible refine Below.drew ?_) | (with_reducible refine Below.trans ?_ (Below.mono (by with_reducible assumption) ?_)) | go_size | (simp at *; omega)))⟩
theorem endSecond_any (a b c d e f g h : Int) (w : World) :
    Calls Try.prog 42 #[.agg #[.int .i64 a, .int .i64 b, .int .i64 c, .int .i64 d, .int .i64 e, .int .i64 f, .int .i64 g, .int .i64 h]] w fun e' w' => e' = .returned (.tuple #[.agg #[.int .i64 (leftF (vD a b c d e f g h) a c e g).1.a, .int .i64 (leftF (vD a b c d e f g h) a c e g).1.b, .int .i64 (leftF (vD a b c d e f g h) a c e g).1.c, .int .i64 (leftF (vD a b c d e f g h) a c e g).1.d], .int .i64 (leftF (vD a b c d e f g h) a c e g).2]) ∧ Below w.heap.size w w' := by
  go_enter Try.func42, Try.ntmps42
  go_wp2_with (go_at_call 60; refine (endDouble_second _ _ _ _ _ _ _ _ _).mono ?_; rintro e w1 ⟨rfl, hb1⟩; obtain ⟨hc1, hf1, -, hB1⟩ := bcell hb1; have hz1 := hb1.size; (try simp at hz1); (try have hk0 : w.heap.size < w1.heap.size := by omega); (try have hk1 : w.heap.size + 1 < w1.heap.size := by omega); (try have hk2 : w.heap.size + 1 + 1 < w1.heap.size := by omega))
  have q : heapAt w1 (w.heap.size + 1) = some (.cells #[.int .i64 0, .int .i64 0, .int .i64 0, .int .i64 0] 27 (0, 0)) := (by simp [*]); refine bodyPost_ret (ret_row2 Try.results42 _ _ _ _ _ _ _ rfl (heap_setCell_same _ _ 3 _ _ _ (heap_setCell_same _ _ 2 _ _ _ (heap_setCell_same _ _ 1 _ _ _ (heap_setCell_same _ _ 0 _ _ _ q)))) Try.underlying27 rfl (by kernel_rfl)) rfl ?_
  exact ⟨rfl, (by repeat' (first | (with_reducible exact Below.refl _ _) | (with_reducible assumption) | (with_reducible refine Below.setCell ?_ ?_ _) | (with_reducible refine Below.alloc ?_ ?_ _) | (with_reducible refine Below.drew ?_) | (with_reducible refine Below.trans ?_ (Below.mono (by with_reducible assumption) ?_)) | go_size | (simp at *; omega)))⟩
theorem l14For_any (n : Int) (w : World) (h1 : 1 ≤ n) (h2 : n ≤ 4) :
    Calls Try.prog 52 #[.int .i64 n] w fun e' w' => e' = .returned (.agg #[.int .i64 (forF n).a, .int .i64 (forF n).b, .int .i64 (forF n).c, .int .i64 (forF n).d, .int .i64 (forF n).e, .int .i64 (forF n).f, .int .i64 (forF n).g, .int .i64 (forF n).h]) ∧ Below w.heap.size w w' := by
  have : n = 1 ∨ n = 2 ∨ n = 3 ∨ n = 4 := by omega
  rcases this with rfl | rfl | rfl | rfl
  all_goals
    go_enter Try.func52, Try.ntmps52
    go_wp2
    go_returns
    exact ⟨by simp [forF], (by repeat' (first | (with_reducible exact Below.refl _ _) | (with_reducible assumption) | (with_reducible refine Below.setCell ?_ ?_ _) | (with_reducible refine Below.alloc ?_ ?_ _) | (with_reducible refine Below.drew ?_) | (with_reducible refine Below.trans ?_ (Below.mono (by with_reducible assumption) ?_)) | go_size | (simp at *; omega)))⟩
theorem doubleFor_any (n : Int) (w : World) (h1 : 1 ≤ n) (h2 : n ≤ 4) :
    Calls Try.prog 53 #[.int .i64 n] w fun e' w' => e' = .returned (.agg #[.int .i64 (forF n).a, .int .i64 (forF n).b, .int .i64 (forF n).c, .int .i64 (forF n).d, .int .i64 (forF n).e, .int .i64 (forF n).f, .int .i64 (forF n).g, .int .i64 (forF n).h]) ∧ Below w.heap.size w w' := by
  have : n = 1 ∨ n = 2 ∨ n = 3 ∨ n = 4 := by omega
  rcases this with rfl | rfl | rfl | rfl
  all_goals
    go_enter Try.func53, Try.ntmps53
    go_wp2
    go_returns
    exact ⟨by simp [forF], (by repeat' (first | (with_reducible exact Below.refl _ _) | (with_reducible assumption) | (with_reducible refine Below.setCell ?_ ?_ _) | (with_reducible refine Below.alloc ?_ ?_ _) | (with_reducible refine Below.drew ?_) | (with_reducible refine Below.trans ?_ (Below.mono (by with_reducible assumption) ?_)) | go_size | (simp at *; omega)))⟩
theorem l14Op_any (n : Int) (w : World) :
    Calls Try.prog 43 #[.int .i64 n] w fun e' w' => e' = .returned (.bool (inR n 1 4)) ∧ w = w' := by
  go_enter Try.func43, Try.ntmps43
  go_wp2_with (go_at_call 47; refine (in_any _ _ _ _).mono ?_; rintro e w1 ⟨rfl, rfl⟩)
  go_ret
  exact ⟨rfl, rfl⟩
theorem isOperation_any (n : Int) (w : World) :
    Calls Try.prog 44 #[.int .i64 n] w fun e' w' => e' = .returned (.bool (inR n 1 4)) ∧ w = w' := by
  go_enter Try.func44, Try.ntmps44
  go_wp2_with (go_at_call 48; refine (within_any _ _ _ _).mono ?_; rintro e w1 ⟨rfl, rfl⟩)
  go_ret
  exact ⟨rfl, rfl⟩
theorem sDoubleFor_any (n : Int) (w : World) :
    Calls Try.prog 32 #[.int .i64 n] w fun e' w' => e' = .returned (.tuple #[.agg #[.int .i64 (forF' n).1.a, .int .i64 (forF' n).1.b, .int .i64 (forF' n).1.c, .int .i64 (forF' n).1.d, .int .i64 (forF' n).1.e, .int .i64 (forF' n).1.f, .int .i64 (forF' n).1.g, .int .i64 (forF' n).1.h], .int .i64 (forF' n).2]) ∧ Below w.heap.size w w' := by
  cases hr : inR n 1 4
  · go_enter Try.func32, Try.ntmps32
    go_wp2_with (go_at_call 43; refine (l14Op_any _ _).mono ?_; rintro e w1 ⟨rfl, rfl⟩)
    go_returns
    exact ⟨by simp [forF', hr, zD], (by repeat' (first | (with_reducible exact Below.refl _ _) | (with_reducible assumption) | (with_reducible refine Below.setCell ?_ ?_ _) | (with_reducible refine Below.alloc ?_ ?_ _) | (with_reducible refine Below.drew ?_) | (with_reducible refine Below.trans ?_ (Below.mono (by with_reducible assumption) ?_)) | go_size | (simp at *; omega)))⟩
  · obtain ⟨h1, h2⟩ := inR_iff.1 hr
    go_enter Try.func32, Try.ntmps32
    go_wp2_with (first | (go_at_call 43; refine (l14Op_any _ _).mono ?_; rintro e w1 ⟨rfl, rfl⟩) | (go_at_call 52; refine (l14For_any _ _ h1 h2).mono ?_; rintro e w1 ⟨rfl, hb1⟩; obtain ⟨hc1, hf1, -, hB1⟩ := bcell hb1; have hz1 := hb1.size; (try simp at hz1); (try have hk0 : w.heap.size < w1.heap.size := by omega); (try have hk1 : w.heap.size + 1 < w1.heap.size := by omega); (try have hk2 : w.heap.size + 1 + 1 < w1.heap.size := by omega)))
    have q : heapAt w1 (w.heap.size) = some (.cells #[.int .i64 0, .int .i64 0, .int .i64 0, .int .i64 0, .int .i64 0, .int .i64 0, .int .i64 0, .int .i64 0] 38 (0, 0)) := (by simp [*]); refine bodyPost_ret (ret_row2 Try.results32 _ _ _ _ _ _ _ rfl (heap_setCell_same _ _ 7 _ _ _ (heap_setCell_same _ _ 6 _ _ _ (heap_setCell_same _ _ 5 _ _ _ (heap_setCell_same _ _ 4 _ _ _ (heap_setCell_same _ _ 3 _ _ _ (heap_setCell_same _ _ 2 _ _ _ (heap_setCell_same _ _ 1 _ _ _ (heap_setCell_same _ _ 0 _ _ _ q)))))))) Try.underlying38 rfl (by kernel_rfl)) rfl ?_
    exact ⟨by simp [forF', hr], (by repeat' (first | (with_reducible exact Below.refl _ _) | (with_reducible assumption) | (with_reducible refine Below.setCell ?_ ?_ _) | (with_reducible refine Below.alloc ?_ ?_ _) | (with_reducible refine Below.drew ?_) | (with_reducible refine Below.trans ?_ (Below.mono (by with_reducible assumption) ?_)) | go_size | (simp at *; omega)))⟩
theorem doubleForE_any (n : Int) (w : World) :
    Calls Try.prog 33 #[.int .i64 n] w fun e' w' => e' = .returned (.tuple #[.agg #[.int .i64 (forF' n).1.a, .int .i64 (forF' n).1.b, .int .i64 (forF' n).1.c, .int .i64 (forF' n).1.d, .int .i64 (forF' n).1.e, .int .i64 (forF' n).1.f, .int .i64 (forF' n).1.g, .int .i64 (forF' n).1.h], .int .i64 (forF' n).2]) ∧ Below w.heap.size w w' := by
  cases hr : inR n 1 4
  · go_enter Try.func33, Try.ntmps33
    go_wp2_with (go_at_call 44; refine (isOperation_any _ _).mono ?_; rintro e w1 ⟨rfl, rfl⟩)
    go_returns
    exact ⟨by simp [forF', hr, zD], (by repeat' (first | (with_reducible exact Below.refl _ _) | (with_reducible assumption) | (with_reducible refine Below.setCell ?_ ?_ _) | (with_reducible refine Below.alloc ?_ ?_ _) | (with_reducible refine Below.drew ?_) | (with_reducible refine Below.trans ?_ (Below.mono (by with_reducible assumption) ?_)) | go_size | (simp at *; omega)))⟩
  · obtain ⟨h1, h2⟩ := inR_iff.1 hr
    go_enter Try.func33, Try.ntmps33
    go_wp2_with (first | (go_at_call 44; refine (isOperation_any _ _).mono ?_; rintro e w1 ⟨rfl, rfl⟩) | (go_at_call 53; refine (doubleFor_any _ _ h1 h2).mono ?_; rintro e w1 ⟨rfl, hb1⟩; obtain ⟨hc1, hf1, -, hB1⟩ := bcell hb1; have hz1 := hb1.size; (try simp at hz1); (try have hk0 : w.heap.size < w1.heap.size := by omega); (try have hk1 : w.heap.size + 1 < w1.heap.size := by omega); (try have hk2 : w.heap.size + 1 + 1 < w1.heap.size := by omega)))
    have q : heapAt w1 (w.heap.size) = some (.cells #[.int .i64 0, .int .i64 0, .int .i64 0, .int .i64 0, .int .i64 0, .int .i64 0, .int .i64 0, .int .i64 0] 38 (0, 0)) := (by simp [*]); refine bodyPost_ret (ret_row2 Try.results33 _ _ _ _ _ _ _ rfl (heap_setCell_same _ _ 7 _ _ _ (heap_setCell_same _ _ 6 _ _ _ (heap_setCell_same _ _ 5 _ _ _ (heap_setCell_same _ _ 4 _ _ _ (heap_setCell_same _ _ 3 _ _ _ (heap_setCell_same _ _ 2 _ _ _ (heap_setCell_same _ _ 1 _ _ _ (heap_setCell_same _ _ 0 _ _ _ q)))))))) Try.underlying38 rfl (by kernel_rfl)) rfl ?_
    exact ⟨by simp [forF', hr], (by repeat' (first | (with_reducible exact Below.refl _ _) | (with_reducible assumption) | (with_reducible refine Below.setCell ?_ ?_ _) | (with_reducible refine Below.alloc ?_ ?_ _) | (with_reducible refine Below.drew ?_) | (with_reducible refine Below.trans ?_ (Below.mono (by with_reducible assumption) ?_)) | go_size | (simp at *; omega)))⟩
end Go.Proofs.Ytpomabkeagkhjaa
