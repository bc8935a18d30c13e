/- Lists of rows (structs, numbers) that a call itself has made: what is known of them, whatever the element. -/
import Derived.Test.YtodbmnbahldabaaDoorMem
namespace Go.Proofs.YtodbmnbahldabaaDoor
open Go.ChangeShapes Go.WideShapes Go.ChangeAt Go.RowKit
set_option linter.unusedVariables false
section
variable {α : Type} {g : α → List Value} {k : Nat}
/-- The cells of a list of rows. -/
def rowsOf (g : α → List Value) (L : List α) : List Value := L.flatMap g
theorem rows_nil : rowsOf g [] = [] := rfl
theorem rows_append (L M : List α) : rowsOf g (L ++ M) = rowsOf g L ++ rowsOf g M := List.flatMap_append
theorem rows_one (x : α) : rowsOf g [x] = g x := by simp [rowsOf]
theorem rows_len (hk : ∀ x, (g x).length = k) (L : List α) : (rowsOf g L).length = L.length * k := by
  induction L with
  | nil => simp [rowsOf]
  | cons x L ih =>
    have : rowsOf g (x :: L) = g x ++ rowsOf g L := by simp [rowsOf]
    rw [this, List.length_append, ih, hk, List.length_cons, Nat.add_mul, Nat.one_mul, Nat.add_comm]
theorem rows_at (hk : ∀ x, (g x).length = k) : ∀ (L : List α) (i j : Nat) (hi : i < L.length), j < k → (rowsOf g L)[i * k + j]? = (g L[i])[j]? := by
  intro L
  induction L with
  | nil => intro i j hi; simp at hi
  | cons x L ih =>
    intro i j hi hj
    have e : rowsOf g (x :: L) = g x ++ rowsOf g L := by simp [rowsOf]
    rw [e]
    cases i with
    | zero => rw [Nat.zero_mul, Nat.zero_add, List.getElem?_append_left (by rw [hk]; exact hj)]; rfl
    | succ i =>
      rw [List.getElem?_append_right (by rw [hk, Nat.add_mul]; omega), hk]
      have e2 : (i + 1) * k + j - k = i * k + j := by rw [Nat.add_mul]; omega
      rw [e2, ih i j (by simpa using hi) hj]
      rfl
/-- The slice v is a list of rows that the call itself made: blocks from B on. -/
def Own (w : World) (B : Nat) (T : TypeId) (k : Nat) (g : α → List Value) (v : Value) (L : List α) : Prop := w.ownsRow B T k v L.length (rowsOf g L)
variable {w w' : World} {B : Nat} {T : TypeId} {v : Value} {L : List α}
theorem Own.nil (w : World) (B : Nat) (T : TypeId) (k : Nat) (g : α → List Value) : Own w B T k g (.slice none 0 0) [] := World.ownsRow_nil w B T k
theorem Own.empty (w : World) (B : Nat) (T : TypeId) (k : Nat) (g : α → List Value) (hB : B ≤ w.heap.size) : Own (w.alloc (.cells #[] T)) B T k g (.slice (some ⟨w.heap.size, 0, none⟩) 0 0) [] := by
  have := World.ownsRow_lit (base := B) (e := T) (size := k) w #[] 0 hB (by simp) (by simp)
  exact this
theorem grown_of_below (h : Below w.heap.size w w') : w.grownBy w' none := ⟨h.os, h.tape, h.output, h.size, fun k hk _ => h.block k hk⟩
theorem Own.below (h : Own w B T k g v L) (hb : Below w.heap.size w w') : Own w' B T k g v L := World.ownsRow.kept h (grown_of_below hb) (by cases hv : v.ownBlock <;> simp)
theorem Own.kept (h : Own w B T k g v L) {row : Option Nat} (hg : w.grownBy w' row) (hne : v.ownBlock = none ∨ v.ownBlock ≠ row) : Own w' B T k g v L := World.ownsRow.kept h hg hne
theorem Own.lt (h : Own w B T k g v L) : ∀ b, v.ownBlock = some b → B ≤ b ∧ b < w.heap.size := World.ownsRow.lt h
theorem Own.mono {B' : Nat} (h : Own w B T k g v L) (hB : B' ≤ B) : Own w B' T k g v L := by
  refine ⟨h.1, ?_⟩
  rcases h.2 with h1 | ⟨b, cap, cur, h1, h2, h3⟩
  · exact .inl h1
  · exact .inr ⟨b, cap, cur, h1, by omega, h3⟩
/-- Two forms: nothing is owned; or the row begins at the head of a block. -/
theorem Own.shape (h : Own w B T k g v L) : (L = [] ∧ ∃ ao cap, v = .slice ao 0 cap) ∨ (0 < L.length ∧ ∃ b cap, v = .slice (some ⟨b, 0, none⟩) L.length cap ∧ B ≤ b ∧ b < w.heap.size ∧ L.length ≤ cap) := by
  rcases h.2 with ⟨h1, h2⟩ | ⟨b, cap, cur, h1, h2, h3, h4, h5, h6, h7⟩
  · exact .inl ⟨List.eq_nil_of_length_eq_zero h2, _, _, h1⟩
  · rcases Nat.eq_zero_or_pos L.length with h0 | h0
    · exact .inl ⟨List.eq_nil_of_length_eq_zero h0, _, _, by rw [h1, h0]⟩
    · exact .inr ⟨h0, b, cap, h1, h2, (Array.getElem?_eq_some_iff.1 h3).1, h4⟩
theorem Own.len (h : Own w B T k g v L) : ∃ ao cap, v = .slice ao L.length cap := by
  rcases h.shape with ⟨rfl, ao, cap, h⟩ | ⟨_, b, cap, h, _⟩
  · exact ⟨ao, cap, h⟩
  · exact ⟨_, cap, h⟩
theorem Own.cell (hk : ∀ x, (g x).length = k) {b cap : Nat} (h : Own w B T k g (.slice (some ⟨b, 0, none⟩) L.length cap) L) (i j : Nat) (hi : i < L.length) (hj : j < k) : w.cell? ⟨b, i * k + j, none⟩ = (g L[i])[j]? := by
  rw [World.ownsRow.cellAt h (i * k + j) ?_, rows_at hk L i j hi hj]
  have : (i + 1) * k ≤ L.length * k := Nat.mul_le_mul_right k hi
  rw [Nat.add_mul] at this
  omega
theorem Own.free {b cap : Nat} (h : Own w B T k g (.slice (some ⟨b, 0, none⟩) L.length cap) L) (j : Nat) : w.frozen? ⟨b, j, none⟩ = false := World.ownsRow.frozenAt h j
/-- What an append leaves. -/
theorem Own.more {x : α} (h : w'.ownsRow B T k v (L.length + 1) (rowsOf g L ++ g x)) : Own w' B T k g v (L ++ [x]) := by
  unfold Own
  rw [rows_append, rows_one, List.length_append]
  exact h
end
end Go.Proofs.YtodbmnbahldabaaDoor
