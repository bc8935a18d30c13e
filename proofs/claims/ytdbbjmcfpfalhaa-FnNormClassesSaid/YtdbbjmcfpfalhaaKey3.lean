/- Keys of maps that are structs of three int64: what they read as. -/
import Derived.Test.YtdbbjmcfpfalhaaMem
import Derived.Maps.OwnSet
import Derived.DeepKeys4
namespace Go.Proofs.Ytdbbjmcfpfalhaa
open Go.ChangeShapes Go.WideShapes Go.ChangeAt Go.RowKit
open Go.Maps
set_option linter.unusedVariables false
set_option maxRecDepth 20000
theorem laidOutK : laidOutB Try.prog = true := by kernel_rfl
theorem wideS : (match Try.prog.underlying 85 with | some (.array _ _) | some (.struct _) => true | _ => false) = true := by rw [Try.underlying85]
theorem rowS : (85 : TypeId) < Try.prog.types.size := of_decide_eq_true (by kernel_rfl)
theorem keyAtS : Try.prog.keyTypeAt 2 85 = true := by kernel_rfl
theorem klawS : Go.WideMaps.KeyLaw Try.prog 85 := deep_law_laid laidOutK (m := 2) (Nat.le_of_ble_eq_true (by kernel_rfl)) rowS keyAtS wideS
theorem lawS : Keyed Try.prog 85 := Keyed.of_law klawS
theorem keyTypeS : Try.prog.keyType 85 = true := by kernel_rfl
theorem cellsS3 : Try.prog.cellsOf 85 = 3 := by kernel_rfl
theorem cellsI64 : Try.prog.cellsOf 2 = 1 := by kernel_rfl
theorem typesSize : ∃ n, Try.prog.types.size = n + 1 := ⟨Try.prog.types.size - 1, by have : 0 < Try.prog.types.size := of_decide_eq_true (by kernel_rfl); omega⟩
theorem keyS_some {a b c : Int} (wa : (Lit.int .i64 a).wf = true) (wb : (Lit.int .i64 b).wf = true) (wc : (Lit.int .i64 c).wf = true) : ∃ kl, keyOf Try.prog 85 (.agg #[.int .i64 a, .int .i64 b, .int .i64 c]) = some kl := by
  obtain ⟨n, hn⟩ := typesSize
  have hf : (Value.agg #[.int .i64 a, .int .i64 b, .int .i64 c]).formed Try.prog 85 = true := by simp [Value.formed, Try.underlying85, cellsS3]
  unfold keyOf
  rw [Try.underlying85]
  simp only [keyTypeS, hf, Bool.and_self, if_true, hn]
  simp [Program.keyLits, Try.underlying85, Try.underlying2, cellsS3, cellsI64, Value.cells, wa, wb, wc]
end Go.Proofs.Ytdbbjmcfpfalhaa
