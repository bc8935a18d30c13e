/- The law over the cycle of a form. -/
import Derived.Test.YtolbihoeheogkaaFmsI
namespace Go.Proofs.Ytolbihoeheogkaa
open Go.ChangeShapes Go.WideShapes Go.ChangeAt Go.RowKit
set_option linter.unusedVariables false
set_option maxHeartbeats 1000000
theorem cyF_len (f : Fm) : ∀ (k : Nat) (x : Fm) (L M : List Fm), cyF f k x L = some M → M.length ≤ L.length + k := by
  intro k
  induction k with
  | zero => intro x L M h; simp [cyF] at h
  | succ k ih =>
    intro x L M h
    unfold cyF at h
    split at h
    · cases h; omega
    · split at h
      · have := ih _ _ _ h
        rw [List.length_append, List.length_singleton] at this
        omega
      · cases h
theorem cyR_len {f : Fm} {M : List Fm} (h : cyR f = some M) : M.length ≤ 1001 := by
  unfold cyR at h
  split at h
  · cases h; simp
  · have := cyF_len f _ _ _ _ h
    simp at this
    omega
theorem fcR_len (a b c : Int) : (fcR a b c).1.length ≤ 1000000 := by
  unfold fcR
  split
  · split
    · cases h : cyR (rdR a b c).1 with
      | none => simp [olF]
      | some M => have := cyR_len h; simp [olF]; omega
    · simp
  · simp
theorem own_ne2 {α : Type} {g : α → List Value} {k : Nat} {T : TypeId} {w : World} {B : Nat} {v : Value} {L : List α} (h : Own w B T k g v L) {b : Nat} (hb : b < B ∨ w.heap.size ≤ b) : v.ownBlock ≠ some b := by
  intro e
  have := h.lt b e
  omega
theorem walk_FnExactFormCycle (a b c : Int) (wa : (Lit.int .i64 a).wf = true) (wb : (Lit.int .i64 b).wf = true) (wc : (Lit.int .i64 c).wf = true)  (w : World) :
    Calls Try.prog 10 #[.agg #[.int .i64 a, .int .i64 b, .int .i64 c]] w fun e' w' => e' = .returned (.bool true) ∧ Below w.heap.size w w' := by
  have hl := fcR_len a b c
  go_enter Try.func10, Try.ntmps10
  go_wp2_with fail
  refine (toForm_any _ _ _ _).mono ?_
  rintro e w1 ⟨rfl, b1⟩
  have F1 : Hid (heapAt w1 w.heap.size = some (.cells #[.int .i64 a, .int .i64 b, .int .i64 c] 23 (0, 0))) := Lib.hid ((b1.block w.heap.size (by simp)).trans (heapAt_new w _))
  have B1 := Lib.hid b1
  clear b1
  try clear p0 p1 p2 p3 p4 p5 p6
  go_wp2_with fail
  refine (sFormCycle_any _ _ _ _).mono ?_
  intro e w2 hr
  unfold RetFC at hr
  obtain ⟨v0, rfl, o2, b2⟩ := hr
  have O2 := Lib.hid o2
  clear o2
  have F2 : Hid (heapAt w2 w.heap.size = some (.cells #[.int .i64 a, .int .i64 b, .int .i64 c] 23 (0, 0))) := Lib.hid ((b2.block w.heap.size (blk_lt F1.out)).trans F1.out)
  have B2 := Lib.hid b2
  clear b2
  obtain ⟨p0, p1, p2, p3, p4, p5, p6⟩ := blk3 F2.out
  go_wp2_with fail
  refine (toForm_any _ _ _ _).mono ?_
  rintro e w3 ⟨rfl, b3⟩
  have F3 : Hid (heapAt w3 w.heap.size = some (.cells #[.int .i64 a, .int .i64 b, .int .i64 c] 23 (0, 0))) := Lib.hid ((b3.block w.heap.size (blk_lt F2.out)).trans F2.out)
  have B3 := Lib.hid b3
  clear b3
  try clear p0 p1 p2 p3 p4 p5 p6
  go_wp2_with fail
  refine (iFormCycle_any _ _ _ _).mono ?_
  intro e w4 hr
  unfold RetFC at hr
  obtain ⟨v1, rfl, o4, b4⟩ := hr
  have O4 := Lib.hid o4
  clear o4
  have F4 : Hid (heapAt w4 w.heap.size = some (.cells #[.int .i64 a, .int .i64 b, .int .i64 c] 23 (0, 0))) := Lib.hid ((b4.block w.heap.size (blk_lt F3.out)).trans F3.out)
  have B4 := Lib.hid b4
  clear b4
  go_wp2_with fail
  refine (eqFormS_same v1 v0 (fcR a b c).1 _ _ _ O4.out ((O2.out.below B3.out).below B4.out) hl).mono ?_
  rintro e w5 ⟨rfl, b5⟩
  have F5 : Hid (heapAt w5 w.heap.size = some (.cells #[.int .i64 a, .int .i64 b, .int .i64 c] 23 (0, 0))) := Lib.hid ((b5.block w.heap.size (blk_lt F4.out)).trans F4.out)
  have B5 := Lib.hid b5
  clear b5
  go_wp2_with fail
  refine (markFormS_any v1 (fcR a b c).1 w3.heap.size _ (O4.out.below B5.out) hl).mono ?_
  rintro e w6 ⟨rfl, o6, g6⟩
  have O6 := Lib.hid o6
  have G6 := Lib.hid g6
  clear o6 g6
  have S1 := B1.out.size
  have S2 := B2.out.size
  have S3 := B3.out.size
  have S4 := B4.out.size
  have S5 := B5.out.size
  have S6 := G6.out.size
  have L5 := blk_lt F5.out
  have F6 : Hid (heapAt w6 w.heap.size = some (.cells #[.int .i64 a, .int .i64 b, .int .i64 c] 23 (0, 0))) := Lib.hid ((grown_at G6.out (own_ne2 (O4.out.below B5.out) (.inl (by have := blk_lt F3.out; omega))) L5).trans F5.out)
  go_wp2_with fail
  refine (heldFormS_any v1 (fcR a b c).1 w3.heap.size _ O6.out hl).mono ?_
  rintro e w_ ⟨rfl, rfl⟩
  obtain ⟨p0, p1, p2, p3, p4, p5, p6⟩ := blk3 F6.out
  go_wp2_with fail
  refine (toForm_any _ _ _ _).mono ?_
  rintro e w7 ⟨rfl, b7⟩
  have F7 : Hid (heapAt w7 w.heap.size = some (.cells #[.int .i64 a, .int .i64 b, .int .i64 c] 23 (0, 0))) := Lib.hid ((b7.block w.heap.size (blk_lt F6.out)).trans F6.out)
  have B7 := Lib.hid b7
  clear b7
  try clear p0 p1 p2 p3 p4 p5 p6
  go_wp2_with fail
  refine (iFormCycle_any _ _ _ _).mono ?_
  intro e w8 hr
  unfold RetFC at hr
  obtain ⟨v2, rfl, o8, b8⟩ := hr
  have O8 := Lib.hid o8
  clear o8
  have F8 : Hid (heapAt w8 w.heap.size = some (.cells #[.int .i64 a, .int .i64 b, .int .i64 c] 23 (0, 0))) := Lib.hid ((b8.block w.heap.size (blk_lt F7.out)).trans F7.out)
  have B8 := Lib.hid b8
  clear b8
  go_wp2_with fail
  refine (eqFormS_same v2 v0 (fcR a b c).1 _ _ _ O8.out ((((((O2.out.below B3.out).below B4.out).below B5.out).aside O2.out (by omega) (O4.out.below B5.out) G6.out).below B7.out).below B8.out) hl).mono ?_
  rintro e w9 ⟨rfl, b9⟩
  have F9 : Hid (heapAt w9 w.heap.size = some (.cells #[.int .i64 a, .int .i64 b, .int .i64 c] 23 (0, 0))) := Lib.hid ((b9.block w.heap.size (blk_lt F8.out)).trans F8.out)
  have B9 := Lib.hid b9
  clear b9
  go_wp2_with fail
  refine (heldFormS_any v1 (fcR a b c).1 w3.heap.size _ (((O6.out.below B7.out).below B8.out).below B9.out) hl).mono ?_
  rintro e w_ ⟨rfl, rfl⟩
  go_wp2_with fail
  go_ret
  refine ⟨rfl, ?_⟩
  have S7 := B7.out.size
  have S8 := B8.out.size
  have S9 := B9.out.size
  have hs0 : (w.alloc (.cells #[.int .i64 a, .int .i64 b, .int .i64 c] 23)).heap.size = w.heap.size + 1 := World.size_alloc _ _
  have c0 := ((Below.refl w.heap.size w).alloc (Nat.le_refl _) (.cells #[.int .i64 a, .int .i64 b, .int .i64 c] 23))
  have c1 := c0.trans (B1.out.mono (by omega))
  have c2 := c1.trans (B2.out.mono (by omega))
  have c3 := c2.trans (B3.out.mono (by omega))
  have c4 := c3.trans (B4.out.mono (by omega))
  have c5 := c4.trans (B5.out.mono (by omega))
  have c6 := Below.marked c5 (B := w3.heap.size) (by omega) (by omega) (O4.out.below B5.out) G6.out
  have c7 := c6.trans (B7.out.mono (by omega))
  have c8 := c7.trans (B8.out.mono (by omega))
  have c9 := c8.trans (B9.out.mono (by omega))
  exact c9

end Go.Proofs.Ytolbihoeheogkaa
