/- Lists of forms: the marks are held; what an append leaves. -/
import Derived.Test.YtodbmnbahldabaaDoorFms
namespace Go.Proofs.YtodbmnbahldabaaDoor
open Go.ChangeShapes Go.WideShapes Go.ChangeAt Go.RowKit
set_option linter.unusedVariables false
set_option maxHeartbeats 1000000
theorem mkF_cells {w : World} {B b cap : Nat} {L : List Fm} (h : OwnF w B (.slice (some ⟨b, 0, none⟩) L.length cap) (mkF 1 L L.length)) {i : Nat} (hi : i < L.length) :
    w.cell? ⟨b, i * 3, none⟩ = some (.int .i64 (1 + 3 * (i : Int))) ∧ w.cell? ⟨b, i * 3 + 1, none⟩ = some (.int .i64 (1 + 3 * (i : Int) + 1)) ∧ w.cell? ⟨b, i * 3 + 2, none⟩ = some (.int .i64 (1 + 3 * (i : Int) + 2)) := by
  have e := mkF_len 1 L L.length
  have q := mkF_get 1 L L.length i hi (Nat.le_refl _)
  generalize mkF 1 L L.length = M at *
  rw [← e] at h
  have him : i < M.length := by omega
  have c := OwnF.cells h i him
  rw [List.getElem?_eq_getElem him] at q
  have q2 := Option.some.inj q
  rw [q2] at c
  exact c
end Go.Proofs.YtodbmnbahldabaaDoor
