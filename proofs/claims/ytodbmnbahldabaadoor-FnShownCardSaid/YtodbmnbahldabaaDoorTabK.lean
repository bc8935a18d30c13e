/- The library's table stands where cells are kept. -/
import Derived.Test.YtodbmnbahldabaaDoorDec
import Derived.Test.YtodbmnbahldabaaDoorMemB
namespace Go.Proofs.YtodbmnbahldabaaDoor
open Go.ChangeShapes Go.WideShapes Go.ChangeAt Go.RowKit
set_option linter.unusedVariables false
theorem cells_of {w : World} {g : Nat} {v : Value} (h : w.cell? ⟨g, 0, none⟩ = some v) : ∃ cs t fr, w.heap[g]? = some (.cells cs t fr) := by
  unfold World.cell? at h
  cases hw : w.heap[g]? with
  | none => rw [hw] at h; simp at h
  | some o =>
    cases o with
    | cells cs t fr => exact ⟨cs, t, fr, rfl⟩
    | _ => rw [hw] at h; simp at h
theorem tab_kept {W w : World} (h : Kept W w) (ht : Tab W) : Tab w := by
  unfold Tab Lib.TabIs World.var? at ht ⊢
  cases hgn : Tryd.prog.globalNamed "internal/strconv.uint64pow10" with
  | none => rw [hgn] at ht; simp at ht
  | some g =>
    rw [hgn] at ht
    simp only [Option.bind_some] at ht ⊢
    cases hW : W.heap[g]? with
    | none => rw [hW] at ht; simp at ht
    | some ob =>
      cases ob with
      | cells cs t fr =>
        rw [hW] at ht
        simp only at ht
        have hg : g < W.heap.size := (Array.getElem?_eq_some_iff.1 hW).1
        have hcell : ∀ j, W.cell? ⟨g, j, none⟩ = cs[j]? := fun j => cell_of_row W g j cs t fr hW
        have hcs := Option.some.inj ht
        have h0 : w.cell? ⟨g, 0, none⟩ = some (.int .u64 1) := by
          rw [h.2 g 0 hg, hcell, hcs]
          rfl
        obtain ⟨cs', t', fr', hw⟩ := cells_of h0
        rw [hw]
        simp only
        rw [← ht]
        congr 1
        apply Array.ext_getElem?
        intro j
        rw [← hcell j, ← h.2 g j hg, cell_of_row w g j cs' t' fr' hw]
      | _ => rw [hW] at ht; simp at ht
theorem itoa_len {n : Int} (hn : -9223372036854775808 ≤ n ∧ n ≤ 9223372036854775807) : (Lib.itoa n).toArray.size ≤ 20 := by
  have h := dg_len 19 n.natAbs (by omega)
  rw [itoa_of]
  split
  · simp
  · split
    · simp; omega
    · simp; omega
theorem wfb {a : Int} (h : (Lit.int .i64 a).wf = true) : -9223372036854775808 ≤ a ∧ a ≤ 9223372036854775807 := by
  have e1 : IntKind.i64.min = -9223372036854775808 := by decide
  have e2 : IntKind.i64.max = 9223372036854775807 := by decide
  simp [Lit.wf, e1, e2] at h
  omega
/-- A sum of two strings. -/
theorem strAdd (x y : ByteArray) (h : x.size + y.size ≤ 9223372036854775807) (w : World) : (binOp .add 9 (.string x) (.string y)).run Tryd.prog w = .ok (.string (x ++ y)) w := by
  simp [binOp, go_sem]
  omega
/-- A sum of two strings, under a name. -/
theorem strAddN {x y : ByteArray} {k m : Nat} (h1 : x.size ≤ k) (h2 : y.size ≤ m) (h : k + m ≤ 9223372036854775807) : ∃ z : ByteArray, x ++ y = z ∧ z.size ≤ k + m ∧ ∀ w : World, (binOp .add 9 (.string x) (.string y)).run Tryd.prog w = .ok (.string z) w :=
  ⟨_, rfl, by rw [ByteArray.size_append]; omega, fun w => strAdd x y (by omega) w⟩
end Go.Proofs.YtodbmnbahldabaaDoor
