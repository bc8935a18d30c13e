/- The law over the cycle of a form. -/
import Derived.Test.YtolbihoeheogkaaDoorFmsI
namespace Go.Proofs.YtolbihoeheogkaaDoor
open Go.ChangeShapes Go.WideShapes Go.ChangeAt Go.RowKit
set_option linter.unusedVariables false
set_option maxHeartbeats 1000000
theorem cyF_len (f : Fm) : ∀ (k : Nat) (x : Fm) (L M : List Fm), cyF f k x L = some M → M.length ≤ L.length + k := by
  intro k
  induction k with
  | zero => intro x L M h; simp [cyF] at h
  | succ k ih =>
    intro x L M h
    unfold cyF at h
    split at h
    · cases h; omega
    · split at h
      · have := ih _ _ _ h
        rw [List.length_append, List.length_singleton] at this
        omega
      · cases h
theorem cyR_len {f : Fm} {M : List Fm} (h : cyR f = some M) : M.length ≤ 1001 := by
  unfold cyR at h
  split at h
  · cases h; simp
  · have := cyF_len f _ _ _ _ h
    simp at this
    omega
theorem fcR_len (a b c : Int) : (fcR a b c).1.length ≤ 1000000 := by
  unfold fcR
  split
  · split
    · cases h : cyR (rdR a b c).1 with
      | none => simp [olF]
      | some M => have := cyR_len h; simp [olF]; omega
    · simp
  · simp
theorem own_ne2 {α : Type} {g : α → List Value} {k : Nat} {T : TypeId} {w : World} {B : Nat} {v : Value} {L : List α} (h : Own w B T k g v L) {b : Nat} (hb : b < B ∨ w.heap.size ≤ b) : v.ownBlock ≠ some b := by
  intro e
  have := h.lt b e
  omega

end Go.Proofs.YtolbihoeheogkaaDoor
