/- Keys of maps that are structs of three int64: what they read as. -/
import Derived.Test.YtdbbjmcfpfalhaaDoorMem
import Derived.Maps.OwnSet
import Derived.DeepKeys4
namespace Go.Proofs.YtdbbjmcfpfalhaaDoor
open Go.ChangeShapes Go.WideShapes Go.ChangeAt Go.RowKit
open Go.Maps
set_option linter.unusedVariables false
set_option maxRecDepth 20000
theorem laidOutK : laidOutB Tryd.prog = true := by kernel_rfl
theorem wideS : (match Tryd.prog.underlying 86 with | some (.array _ _) | some (.struct _) => true | _ => false) = true := by rw [Tryd.underlying86]
theorem rowS : (86 : TypeId) < Tryd.prog.types.size := of_decide_eq_true (by kernel_rfl)
theorem keyAtS : Tryd.prog.keyTypeAt 2 86 = true := by kernel_rfl
theorem klawS : Go.WideMaps.KeyLaw Tryd.prog 86 := deep_law_laid laidOutK (m := 2) (Nat.le_of_ble_eq_true (by kernel_rfl)) rowS keyAtS wideS
theorem lawS : Keyed Tryd.prog 86 := Keyed.of_law klawS
theorem keyTypeS : Tryd.prog.keyType 86 = true := by kernel_rfl
theorem cellsS3 : Tryd.prog.cellsOf 86 = 3 := by kernel_rfl
theorem cellsI64 : Tryd.prog.cellsOf 2 = 1 := by kernel_rfl
theorem typesSize : ∃ n, Tryd.prog.types.size = n + 1 := ⟨Tryd.prog.types.size - 1, by have : 0 < Tryd.prog.types.size := of_decide_eq_true (by kernel_rfl); omega⟩
theorem keyS_some {a b c : Int} (wa : (Lit.int .i64 a).wf = true) (wb : (Lit.int .i64 b).wf = true) (wc : (Lit.int .i64 c).wf = true) : ∃ kl, keyOf Tryd.prog 86 (.agg #[.int .i64 a, .int .i64 b, .int .i64 c]) = some kl := by
  obtain ⟨n, hn⟩ := typesSize
  have hf : (Value.agg #[.int .i64 a, .int .i64 b, .int .i64 c]).formed Tryd.prog 86 = true := by simp [Value.formed, Tryd.underlying86, cellsS3]
  unfold keyOf
  rw [Tryd.underlying86]
  simp only [keyTypeS, hf, Bool.and_self, if_true, hn]
  simp [Program.keyLits, Tryd.underlying86, Tryd.underlying2, cellsS3, cellsI64, Value.cells, wa, wb, wc]
end Go.Proofs.YtdbbjmcfpfalhaaDoor
