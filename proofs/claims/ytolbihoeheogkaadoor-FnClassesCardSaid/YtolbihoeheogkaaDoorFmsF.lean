/- The law over all reduced forms. -/
import Derived.Test.YtolbihoeheogkaaDoorFmsE
namespace Go.Proofs.YtolbihoeheogkaaDoor
open Go.ChangeShapes Go.WideShapes Go.ChangeAt Go.RowKit
set_option linter.unusedVariables false
set_option maxHeartbeats 1000000
theorem alR_len (d : Int) : (alR d).length ≤ 1000000 := by
  unfold alR
  split
  · rename_i h
    have hd := codeF_zero h
    have hm := rt44 hd
    unfold allF
    have h1 := outF_len d (rt (ab d)) (2 * rt (ab d) + 1).toNat
    have h2 : (2 * rt (ab d) + 1).toNat * (2 * rt (ab d) + 1).toNat ≤ 89 * 89 := Nat.mul_le_mul (by omega) (by omega)
    omega
  · simp
/-- A list that is older than the row that is marked is kept. -/
theorem Own.aside {α : Type} {g g' : α → List Value} {k k' : Nat} {w w' w0 : World} {B B' : Nat} {T T' : TypeId} {v v' : Value} {L M : List α} (h : Own w B T k g v L) (hold : Own w0 B T k g v L) (hlt : w0.heap.size ≤ B') (h2 : Own w B' T' k' g' v' M) (hg : w.grownBy w' v'.ownBlock) : Own w' B T k g v L := by
  refine h.kept hg ?_
  cases hv : v.ownBlock with
  | none => exact .inl rfl
  | some b =>
    right
    intro e
    have h3 := hold.lt b hv
    have h4 := h2.lt b e.symm
    omega
theorem Below.marked {α : Type} {g : α → List Value} {k : Nat} {w w' w0 : World} {B : Nat} {T : TypeId} {v : Value} {M : List α} {C : Nat} (hb : Below C w0 w) (hC : C ≤ B) (hB : B ≤ w.heap.size) (h2 : Own w B T k g v M) (hg : w.grownBy w' v.ownBlock) : Below C w0 w' :=
  hb.grown hg (by omega) (fun b hb => by have := (h2.lt b hb).1; omega)
end Go.Proofs.YtolbihoeheogkaaDoor
