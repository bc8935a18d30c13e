/- Memory, more: the cells of a block that is known whole. -/
import Derived.Test.YtodbmnbahldabaaDoorMem
import Derived.Deep.DeepCutAuto
namespace Go.Proofs.YtodbmnbahldabaaDoor
open Go.ChangeShapes Go.WideShapes Go.ChangeAt Go.RowKit
set_option linter.unusedVariables false
@[simp] theorem heapAt_new4 (w : World) (A B C D : Obj) : heapAt ((((w.alloc A).alloc B).alloc C).alloc D) (w.heap.size + 1 + 1 + 1) = some D := by
  have h := heap_alloc_new (((w.alloc A).alloc B).alloc C) D
  have e : (((w.alloc A).alloc B).alloc C).heap.size = w.heap.size + 1 + 1 + 1 := by simp
  rwa [e] at h
theorem cel2 {w : World} {b : Nat} {x y : Value} {t : TypeId} (h : heapAt w b = some (.cells #[x, y] t (0, 0))) : w.cell? ⟨b, 0, none⟩ = some x ∧ w.cell? ⟨b, 1, none⟩ = some y := ⟨blk_cell h 0, blk_cell h 1⟩
theorem cel4 {w : World} {b : Nat} {x y z u : Value} {t : TypeId} (h : heapAt w b = some (.cells #[x, y, z, u] t (0, 0))) :
    w.cell? ⟨b, 0, none⟩ = some x ∧ w.cell? ⟨b, 1, none⟩ = some y ∧ w.cell? ⟨b, 2, none⟩ = some z ∧ w.cell? ⟨b, 3, none⟩ = some u := ⟨blk_cell h 0, blk_cell h 1, blk_cell h 2, blk_cell h 3⟩
theorem blk4 {w : World} {b : Nat} {x y z u : Value} {t : TypeId} (h : heapAt w b = some (.cells #[x, y, z, u] t (0, 0))) :
    b < w.heap.size ∧ w.cell? ⟨b, 0, none⟩ = some x ∧ w.cell? ⟨b, 1, none⟩ = some y ∧ w.cell? ⟨b, 2, none⟩ = some z ∧ w.cell? ⟨b, 3, none⟩ = some u ∧ w.frozen? ⟨b, 0, none⟩ = false ∧ w.frozen? ⟨b, 1, none⟩ = false ∧ w.frozen? ⟨b, 2, none⟩ = false ∧ w.frozen? ⟨b, 3, none⟩ = false :=
  ⟨blk_lt h, blk_cell h 0, blk_cell h 1, blk_cell h 2, blk_cell h 3, blk_free h 0, blk_free h 1, blk_free h 2, blk_free h 3⟩
theorem cel8 {w : World} {b : Nat} {x1 x2 x3 x4 x5 x6 x7 x8 : Value} {t : TypeId} (h : heapAt w b = some (.cells #[x1, x2, x3, x4, x5, x6, x7, x8] t (0, 0))) :
    w.cell? ⟨b, 0, none⟩ = some x1 ∧ w.cell? ⟨b, 1, none⟩ = some x2 ∧ w.cell? ⟨b, 2, none⟩ = some x3 ∧ w.cell? ⟨b, 3, none⟩ = some x4 ∧ w.cell? ⟨b, 4, none⟩ = some x5 ∧ w.cell? ⟨b, 5, none⟩ = some x6 ∧ w.cell? ⟨b, 6, none⟩ = some x7 ∧ w.cell? ⟨b, 7, none⟩ = some x8 :=
  ⟨blk_cell h 0, blk_cell h 1, blk_cell h 2, blk_cell h 3, blk_cell h 4, blk_cell h 5, blk_cell h 6, blk_cell h 7⟩
theorem cell_alloc_lt {w : World} {o : Obj} {b i : Nat} (h : b < w.heap.size) : (w.alloc o).cell? ⟨b, i, none⟩ = w.cell? ⟨b, i, none⟩ :=
  ((Below.refl w.heap.size w).alloc (Nat.le_refl _) o).cell (p := ⟨b, i, none⟩) h
theorem frozen_alloc_lt {w : World} {o : Obj} {b i : Nat} (h : b < w.heap.size) : (w.alloc o).frozen? ⟨b, i, none⟩ = w.frozen? ⟨b, i, none⟩ :=
  ((Below.refl w.heap.size w).alloc (Nat.le_refl _) o).frozen (p := ⟨b, i, none⟩) h
theorem cell_set_ne {w : World} {v : Value} {b i g j : Nat} (h : b ≠ g) : (w.setCell ⟨g, j, none⟩ v).cell? ⟨b, i, none⟩ = w.cell? ⟨b, i, none⟩ := by
  have e : (w.setCell ⟨g, j, none⟩ v).heap[b]? = w.heap[b]? := heap_setCell_other w ⟨g, j, none⟩ b v h
  unfold World.cell?
  simp only [e]
/-- The cells of the blocks that a world W had read as they did. -/
abbrev Kept (W w' : World) : Prop := W.heap.size ≤ w'.heap.size ∧ ∀ b o, b < W.heap.size → w'.cell? ⟨b, o, none⟩ = W.cell? ⟨b, o, none⟩
theorem kept_refl (W : World) : Kept W W := ⟨Nat.le_refl _, fun _ _ _ => rfl⟩
theorem kept_alloc {W w : World} {o : Obj} (h : Kept W w) : Kept W (w.alloc o) :=
  ⟨by have := h.1; simp; omega, fun b i hb => by rw [cell_alloc_lt (by have := h.1; omega)]; exact h.2 b i hb⟩
theorem kept_drew {W w : World} (h : Kept W w) : Kept W w.drew := h
theorem kept_set {W w : World} {g j : Nat} {v : Value} (h : Kept W w) (hg : W.heap.size ≤ g) : Kept W (w.setCell ⟨g, j, none⟩ v) :=
  ⟨by have := h.1; simp; omega, fun b i hb => by rw [cell_set_ne (by omega)]; exact h.2 b i hb⟩
theorem kept_call {W w w1 : World} (h : Kept W w) (hb : Below w.heap.size w w1) : Kept W w1 :=
  ⟨Nat.le_trans h.1 hb.size, fun b i hk => by rw [hb.cell (p := ⟨b, i, none⟩) (by have := h.1; show b < w.heap.size; omega)]; exact h.2 b i hk⟩
theorem kept_other {W w : World} {o o' : Obj} (h : Kept W (w.alloc o)) (hs : W.heap.size ≤ w.heap.size) : Kept W (w.alloc o') :=
  ⟨by simp; omega, fun b i hb => by
    have := h.2 b i hb
    rw [cell_alloc_lt (by omega)] at this ⊢
    exact this⟩
/-- The same, but for one block. -/
abbrev KeptO (R : Nat) (W w' : World) : Prop := W.heap.size ≤ w'.heap.size ∧ ∀ b o, b < W.heap.size → b ≠ R → w'.cell? ⟨b, o, none⟩ = W.cell? ⟨b, o, none⟩
theorem kepto_refl (R : Nat) (W : World) : KeptO R W W := ⟨Nat.le_refl _, fun _ _ _ _ => rfl⟩
theorem kepto_alloc {R : Nat} {W w : World} {o : Obj} (h : KeptO R W w) : KeptO R W (w.alloc o) :=
  ⟨by have := h.1; simp; omega, fun b i hb hn => by rw [cell_alloc_lt (by have := h.1; omega)]; exact h.2 b i hb hn⟩
theorem kepto_drew {R : Nat} {W w : World} (h : KeptO R W w) : KeptO R W w.drew := h
theorem kepto_set {R : Nat} {W w : World} {g j : Nat} {v : Value} (h : KeptO R W w) (hg : W.heap.size ≤ g) : KeptO R W (w.setCell ⟨g, j, none⟩ v) :=
  ⟨by have := h.1; simp; omega, fun b i hb hn => by rw [cell_set_ne (by omega)]; exact h.2 b i hb hn⟩
theorem kepto_set_same {R : Nat} {W w : World} {j : Nat} {v : Value} (h : KeptO R W w) : KeptO R W (w.setCell ⟨R, j, none⟩ v) :=
  ⟨by have := h.1; simp; omega, fun b i hb hn => by rw [cell_set_ne hn]; exact h.2 b i hb hn⟩
theorem kepto_call {R : Nat} {W w w1 : World} (h : KeptO R W w) (hb : Below w.heap.size w w1) : KeptO R W w1 :=
  ⟨Nat.le_trans h.1 hb.size, fun b i hk hn => by rw [hb.cell (p := ⟨b, i, none⟩) (by have := h.1; show b < w.heap.size; omega)]; exact h.2 b i hk hn⟩
theorem kepto_other {R : Nat} {W w : World} {o o' : Obj} (h : KeptO R W (w.alloc o)) (hs : W.heap.size ≤ w.heap.size) : KeptO R W (w.alloc o') :=
  ⟨by simp; omega, fun b i hb hn => by
    have := h.2 b i hb hn
    rw [cell_alloc_lt (by omega)] at this ⊢
    exact this⟩
/-- The same, but for one cell of one block. -/
abbrev KeptC (R j : Nat) (W w' : World) : Prop := W.heap.size ≤ w'.heap.size ∧ ∀ b o, b < W.heap.size → ¬ (b = R ∧ o = j) → w'.cell? ⟨b, o, none⟩ = W.cell? ⟨b, o, none⟩
theorem keptc_refl (R j : Nat) (W : World) : KeptC R j W W := ⟨Nat.le_refl _, fun _ _ _ _ => rfl⟩
theorem keptc_alloc {R j : Nat} {W w : World} {o : Obj} (h : KeptC R j W w) : KeptC R j W (w.alloc o) :=
  ⟨by have := h.1; simp; omega, fun b i hb hn => by rw [cell_alloc_lt (by have := h.1; omega)]; exact h.2 b i hb hn⟩
theorem keptc_drew {R j : Nat} {W w : World} (h : KeptC R j W w) : KeptC R j W w.drew := h
theorem keptc_set_same {R j : Nat} {W w : World} {v : Value} (h : KeptC R j W w) : KeptC R j W (w.setCell ⟨R, j, none⟩ v) :=
  ⟨by have := h.1; simp; omega, fun b i hb hn => by
    have e : (w.setCell ⟨R, j, none⟩ v).cell? ⟨b, i, none⟩ = w.cell? ⟨b, i, none⟩ := by
      by_cases hbR : b = R
      · subst hbR
        exact World.cell?_setCell_other w ⟨b, j, none⟩ ⟨b, i, none⟩ v (by intro e; exact hn ⟨rfl, by cases e; rfl⟩)
      · exact cell_set_ne hbR
    rw [e]; exact h.2 b i hb hn⟩
theorem keptc_call {R j : Nat} {W w w1 : World} (h : KeptC R j W w) (hb : Below w.heap.size w w1) : KeptC R j W w1 :=
  ⟨Nat.le_trans h.1 hb.size, fun b i hk hn => by rw [hb.cell (p := ⟨b, i, none⟩) (by have := h.1; show b < w.heap.size; omega)]; exact h.2 b i hk hn⟩
theorem size_drewN {w : World} {n : Nat} : (w.drewN n).heap.size = w.heap.size := rfl
theorem cell_drewN {w : World} {n b i : Nat} : (w.drewN n).cell? ⟨b, i, none⟩ = w.cell? ⟨b, i, none⟩ := rfl
theorem frozen_drewN {w : World} {n b i : Nat} : (w.drewN n).frozen? ⟨b, i, none⟩ = w.frozen? ⟨b, i, none⟩ := rfl
theorem cell_drew {w : World} {b i : Nat} : w.drew.cell? ⟨b, i, none⟩ = w.cell? ⟨b, i, none⟩ := rfl
theorem frozen_drew {w : World} {b i : Nat} : w.drew.frozen? ⟨b, i, none⟩ = w.frozen? ⟨b, i, none⟩ := rfl
end Go.Proofs.YtodbmnbahldabaaDoor
