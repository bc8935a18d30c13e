/- Lists of rows that a call itself has made, more: new cells, marks, what is kept beside them; a list and a code as results. -/
import Derived.Test.YtodbmnbahldabaaDoorOwn
namespace Go.Proofs.YtodbmnbahldabaaDoor
open Go.ChangeShapes Go.WideShapes Go.ChangeAt Go.RowKit
set_option linter.unusedVariables false
section
variable {α : Type} {g : α → List Value} {k : Nat} {w w' w0 : World} {B : Nat} {T : TypeId} {v : Value} {L : List α}
theorem gtr {a b c : World} {row : Option Nat} (h : a.grownBy b row) (k : b.grownBy c row) : a.grownBy c row :=
  ⟨k.os.trans h.os, k.tape.trans h.tape, k.output.trans h.output, Nat.le_trans h.size k.size, fun i hi hne => (k.block i (Nat.lt_of_lt_of_le hi h.size) hne).trans (h.block i hi hne)⟩
theorem newcs (w : World) (cs : Array Value) (T : TypeId) (l : List Value) (hl : cs.toList = l) : ∀ j u, l[j]? = some u → (w.alloc (.cells cs T)).cell? ((⟨w.heap.size, 0, none⟩ : Addr).add j) = some u := by
  intro j u hu
  subst hl
  have e : (⟨w.heap.size, 0, none⟩ : Addr).add j = ⟨w.heap.size, j, none⟩ := by rw [Addr.add_lit, Nat.zero_add]
  rw [e, World.cell?_alloc_new]
  simpa using hu
theorem newcs2 (w : World) (o : Obj) (cs : Array Value) (T : TypeId) (l : List Value) (hl : cs.toList = l) : ∀ j u, l[j]? = some u → ((w.alloc o).alloc (.cells cs T)).cell? ((⟨w.heap.size + 1, 0, none⟩ : Addr).add j) = some u := by
  have h := newcs (w.alloc o) cs T l hl
  simpa using h
theorem allocL (h : Own w B T k g v L) (o : Obj) : Own (w.alloc o) B T k g v L := World.ownsRow.alloc h o
theorem neL (h : Own w B T k g v L) {b : Nat} (hb : b < B ∨ w.heap.size ≤ b) : v.ownBlock ≠ some b := by
  intro e
  have := h.lt b e
  omega
theorem grown_atL {b : Nat} (hg : w.grownBy w' v.ownBlock) (hne : v.ownBlock ≠ some b) (hb : b < w.heap.size) : heapAt w' b = heapAt w b := hg.block b hb (fun e => hne e.symm)
/-- A list that is older than the row that is marked is kept. -/
theorem asideL {β : Type} {g' : β → List Value} {k' : Nat} {B' : Nat} {T' : TypeId} {v' : Value} {M : List β} (h : Own w B T k g v L) (hold : Own w0 B T k g v L) (hlt : w0.heap.size ≤ B') (h2 : Own w B' T' k' g' v' M) (hg : w.grownBy w' v'.ownBlock) : Own w' B T k g v L := by
  refine h.kept hg ?_
  cases hv : v.ownBlock with
  | none => exact .inl rfl
  | some b =>
    right
    intro e
    have h3 := hold.lt b hv
    have h4 := h2.lt b e.symm
    omega
theorem markedL {C : Nat} (hb : Below C w0 w) (hC : C ≤ B) (hB : B ≤ w.heap.size) (h2 : Own w B T k g v L) (hg : w.grownBy w' v.ownBlock) : Below C w0 w' :=
  hb.grown hg (by omega) (fun b hb => by have := (h2.lt b hb).1; omega)
/-- The call hands back a list of rows of its own, and a code. -/
def RetL (T : TypeId) (k : Nat) (g : α → List Value) (w : World) (L : List α) (c : Int) (e : Ending) (w' : World) : Prop :=
  ∃ v, e = .returned (.tuple #[v, .int .i64 c]) ∧ Own w' w.heap.size T k g v L ∧ Below w.heap.size w w'
/-- The call hands back a list of rows of its own. -/
def RetL1 (T : TypeId) (k : Nat) (g : α → List Value) (w : World) (L : List α) (e : Ending) (w' : World) : Prop :=
  ∃ v, e = .returned v ∧ Own w' w.heap.size T k g v L ∧ Below w.heap.size w w'
end
end Go.Proofs.YtodbmnbahldabaaDoor
