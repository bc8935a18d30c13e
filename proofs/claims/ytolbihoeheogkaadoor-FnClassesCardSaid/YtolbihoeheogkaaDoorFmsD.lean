/- All reduced forms of a discriminant: the reference's loops. -/
import Derived.Test.YtolbihoeheogkaaDoorFmsC
namespace Go.Proofs.YtolbihoeheogkaaDoor
open Go.ChangeShapes Go.WideShapes Go.ChangeAt Go.RowKit
set_option linter.unusedVariables false
set_option maxHeartbeats 1000000
/-- The call hands back a list of forms of its own. -/
def RetF (w : World) (L : List Fm) (e : Ending) (w' : World) : Prop := ∃ v, e = .returned v ∧ OwnF w' w.heap.size v L ∧ Below w.heap.size w w'
theorem inn_succ (d m a : Int) (j : Nat) : innF d m a (j + 1) = innF d m a j ++ tstF d a (-m + j) := rfl
theorem out_succ (d m : Int) (i : Nat) : outF d m (i + 1) = outF d m i ++ (if -m + (i : Int) = 0 then [] else innF d m (-m + i) (2 * m + 1).toNat) := rfl
/-- What an append to an owned list of forms leaves. -/
theorem app_one {w w' : World} {B : Nat} {v v' : Value} {L : List Fm} {f : Fm} (h : w'.ownsRow B 25 3 v' (L.length + 1) (rowsOf gF L ++ [.int .i64 f.a, .int .i64 f.b, .int .i64 f.c])) : OwnF w' B v' (L ++ [f]) := Own.more (x := f) h
theorem new_cells (w : World) (cs : Array Value) (T : TypeId) (l : List Value) (hl : cs.toList = l) : ∀ j u, l[j]? = some u → (w.alloc (.cells cs T)).cell? ((⟨w.heap.size, 0, none⟩ : Addr).add j) = some u := by
  intro j u hu
  subst hl
  have e : (⟨w.heap.size, 0, none⟩ : Addr).add j = ⟨w.heap.size, j, none⟩ := by rw [Addr.add_lit, Nat.zero_add]
  rw [e, World.cell?_alloc_new]
  simpa using hu
theorem three_cells (x y z : Int) : ∀ u ∈ [Value.int .i64 x, Value.int .i64 y, Value.int .i64 z], u.oneCell' = true := by
  intro u hu
  simp at hu
  rcases hu with rfl | rfl | rfl <;> rfl
end Go.Proofs.YtolbihoeheogkaaDoor
