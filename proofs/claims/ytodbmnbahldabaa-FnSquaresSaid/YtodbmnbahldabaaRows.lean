/-
  No cell of these rows narrows 'for every input' (looked for: loops, veiled, ifaces, maps, wideKeys, modest, calm, conditions, laid).
  DERIVED. THE GIVEN ROWS OF THIS SEAT. 7 by the template 'for every input the law returns true; each argument reads behind the call as it read before'; 0 by the template 'total and deterministic' (their statements: YtodbmnbahldabaaTotals.lean).
  GIVEN WITH THE SEED: the statements are not yours to turn. If you find one false, say at which input.
  Laid BY PROGRAM, IN A SANDBOX (cutbox-rows.mjs): the forced cells as the released guide's own fill.sh prints them over the translation 29a25ddbe18122a0… (all of the seat's roots in one cut). By AI agents, Wed Nov 11 2026. No macro, syntax, notation, axiom, sorry.
-/
import Derived.Test.YtodbmnbahldabaaChecked
import GoSem.Claim
import GoSem.ClaimJoined
import GoSem.ClaimMapViews
import Derived.JoinedTies
import Derived.KernelRfl
namespace Go.Proofs.Ytodbmnbahldabaa
/- THE CELL 'sum', in the pinned program and in every row, IS THE sha256 OF THE DUMP (.gsa) THAT YtodbmnbahldabaaProg.lean LOADS. Nothing in Lean hashes anything: it is a label: what it is worth is what the hold of that sum in a sandbox is worth. -/
noncomputable def Try.pinned : Pinned := { name := "ytodbmnbahldabaa", sum := "29a25ddbe18122a0a6299241c1d368ff59f1929bb3e5848b5b5f75209ff53155", checked := Try.checked }
namespace Rows
def none {H : Type} : Left H := { results := [], args := [] }

/-- 'laws.FnExactTwoSquares': WHATEVER THE INPUT: true; the input reads as it did. -/
def fnExactTwoSquaresSpec : ChangeSpec := { name := "fnExactTwoSquares", fn := fun _ => fun
  | [d] => { results := [.lit (.bool true)], args := [d] }
  | _ => none }
def fnExactTwoSquaresRow : OpenClaim := { program := "ytodbmnbahldabaa", sum := "29a25ddbe18122a0a6299241c1d368ff59f1929bb3e5848b5b5f75209ff53155", func := "loop.example/g01007/laws.FnExactTwoSquares", spec := "fnExactTwoSquares", inPlace := ["math.sqrt"], apart := false }
def FnExactTwoSquaresSaid : Prop := fnExactTwoSquaresRow.holds Try.pinned (OpenSpec.ofChange fnExactTwoSquaresSpec)

/-- ITS FALSE NEIGHBOUR: 'it returns false'. Refute it at one input. -/
def fnExactTwoSquaresWrong : ChangeSpec := { name := "fnExactTwoSquares", fn := fun _ => fun
  | [d] => { results := [.lit (.bool false)], args := [d] }
  | _ => none }
def FnExactTwoSquaresWrongFalsely : Prop := fnExactTwoSquaresRow.holds Try.pinned (OpenSpec.ofChange fnExactTwoSquaresWrong)

/-- 'laws.FnExactCountSquares': WHATEVER THE INPUT: true; the input reads as it did. -/
def fnExactCountSquaresSpec : ChangeSpec := { name := "fnExactCountSquares", fn := fun _ => fun
  | [d] => { results := [.lit (.bool true)], args := [d] }
  | _ => none }
def fnExactCountSquaresRow : OpenClaim := { program := "ytodbmnbahldabaa", sum := "29a25ddbe18122a0a6299241c1d368ff59f1929bb3e5848b5b5f75209ff53155", func := "loop.example/g01007/laws.FnExactCountSquares", spec := "fnExactCountSquares", inPlace := ["math.sqrt"], apart := false }
def FnExactCountSquaresSaid : Prop := fnExactCountSquaresRow.holds Try.pinned (OpenSpec.ofChange fnExactCountSquaresSpec)

/-- ITS FALSE NEIGHBOUR: 'it returns false'. Refute it at one input. -/
def fnExactCountSquaresWrong : ChangeSpec := { name := "fnExactCountSquares", fn := fun _ => fun
  | [d] => { results := [.lit (.bool false)], args := [d] }
  | _ => none }
def FnExactCountSquaresWrongFalsely : Prop := fnExactCountSquaresRow.holds Try.pinned (OpenSpec.ofChange fnExactCountSquaresWrong)

/-- 'laws.FnSquares': WHATEVER THE INPUT: true; the input reads as it did. -/
def fnSquaresSpec : ChangeSpec := { name := "fnSquares", fn := fun _ => fun
  | [d] => { results := [.lit (.bool true)], args := [d] }
  | _ => none }
def fnSquaresRow : OpenClaim := { program := "ytodbmnbahldabaa", sum := "29a25ddbe18122a0a6299241c1d368ff59f1929bb3e5848b5b5f75209ff53155", func := "loop.example/g01007/laws.FnSquares", spec := "fnSquares", inPlace := ["math.sqrt"], apart := false }
def FnSquaresSaid : Prop := fnSquaresRow.holds Try.pinned (OpenSpec.ofChange fnSquaresSpec)

/-- ITS FALSE NEIGHBOUR: 'it returns false'. Refute it at one input. -/
def fnSquaresWrong : ChangeSpec := { name := "fnSquares", fn := fun _ => fun
  | [d] => { results := [.lit (.bool false)], args := [d] }
  | _ => none }
def FnSquaresWrongFalsely : Prop := fnSquaresRow.holds Try.pinned (OpenSpec.ofChange fnSquaresWrong)

/-- 'laws.FnExactRepresentBy': WHATEVER THE INPUT: true; the input reads as it did. -/
def fnExactRepresentBySpec : ChangeSpec := { name := "fnExactRepresentBy", fn := fun _ => fun
  | [d1, d2] => { results := [.lit (.bool true)], args := [d1, d2] }
  | _ => none }
def fnExactRepresentByRow : OpenClaim := { program := "ytodbmnbahldabaa", sum := "29a25ddbe18122a0a6299241c1d368ff59f1929bb3e5848b5b5f75209ff53155", func := "loop.example/g01007/laws.FnExactRepresentBy", spec := "fnExactRepresentBy", inPlace := ["math.sqrt"], apart := false }
def FnExactRepresentBySaid : Prop := fnExactRepresentByRow.holds Try.pinned (OpenSpec.ofChange fnExactRepresentBySpec)

/-- ITS FALSE NEIGHBOUR: 'it returns false'. Refute it at one input. -/
def fnExactRepresentByWrong : ChangeSpec := { name := "fnExactRepresentBy", fn := fun _ => fun
  | [d1, d2] => { results := [.lit (.bool false)], args := [d1, d2] }
  | _ => none }
def FnExactRepresentByWrongFalsely : Prop := fnExactRepresentByRow.holds Try.pinned (OpenSpec.ofChange fnExactRepresentByWrong)

/-- 'laws.FnExactCountRepresent': WHATEVER THE INPUT: true; the input reads as it did. -/
def fnExactCountRepresentSpec : ChangeSpec := { name := "fnExactCountRepresent", fn := fun _ => fun
  | [d1, d2] => { results := [.lit (.bool true)], args := [d1, d2] }
  | _ => none }
def fnExactCountRepresentRow : OpenClaim := { program := "ytodbmnbahldabaa", sum := "29a25ddbe18122a0a6299241c1d368ff59f1929bb3e5848b5b5f75209ff53155", func := "loop.example/g01007/laws.FnExactCountRepresent", spec := "fnExactCountRepresent", inPlace := ["math.sqrt"], apart := false }
def FnExactCountRepresentSaid : Prop := fnExactCountRepresentRow.holds Try.pinned (OpenSpec.ofChange fnExactCountRepresentSpec)

/-- ITS FALSE NEIGHBOUR: 'it returns false'. Refute it at one input. -/
def fnExactCountRepresentWrong : ChangeSpec := { name := "fnExactCountRepresent", fn := fun _ => fun
  | [d1, d2] => { results := [.lit (.bool false)], args := [d1, d2] }
  | _ => none }
def FnExactCountRepresentWrongFalsely : Prop := fnExactCountRepresentRow.holds Try.pinned (OpenSpec.ofChange fnExactCountRepresentWrong)

/-- 'laws.FnExactShownBy': WHATEVER THE INPUT: true; the input reads as it did. -/
def fnExactShownBySpec : ChangeSpec := { name := "fnExactShownBy", fn := fun _ => fun
  | [d1, d2] => { results := [.lit (.bool true)], args := [d1, d2] }
  | _ => none }
def fnExactShownByRow : OpenClaim := { program := "ytodbmnbahldabaa", sum := "29a25ddbe18122a0a6299241c1d368ff59f1929bb3e5848b5b5f75209ff53155", func := "loop.example/g01007/laws.FnExactShownBy", spec := "fnExactShownBy", inPlace := ["math.sqrt"], apart := false }
def FnExactShownBySaid : Prop := fnExactShownByRow.holds Try.pinned (OpenSpec.ofChange fnExactShownBySpec)

/-- ITS FALSE NEIGHBOUR: 'it returns false'. Refute it at one input. -/
def fnExactShownByWrong : ChangeSpec := { name := "fnExactShownBy", fn := fun _ => fun
  | [d1, d2] => { results := [.lit (.bool false)], args := [d1, d2] }
  | _ => none }
def FnExactShownByWrongFalsely : Prop := fnExactShownByRow.holds Try.pinned (OpenSpec.ofChange fnExactShownByWrong)

/-- 'laws.FnExactFormsFor': WHATEVER THE INPUT: true; the input reads as it did. -/
def fnExactFormsForSpec : ChangeSpec := { name := "fnExactFormsFor", fn := fun _ => fun
  | [d1, d2] => { results := [.lit (.bool true)], args := [d1, d2] }
  | _ => none }
def fnExactFormsForRow : OpenClaim := { program := "ytodbmnbahldabaa", sum := "29a25ddbe18122a0a6299241c1d368ff59f1929bb3e5848b5b5f75209ff53155", func := "loop.example/g01007/laws.FnExactFormsFor", spec := "fnExactFormsFor", inPlace := ["math.sqrt"], apart := false }
def FnExactFormsForSaid : Prop := fnExactFormsForRow.holds Try.pinned (OpenSpec.ofChange fnExactFormsForSpec)

/-- ITS FALSE NEIGHBOUR: 'it returns false'. Refute it at one input. -/
def fnExactFormsForWrong : ChangeSpec := { name := "fnExactFormsFor", fn := fun _ => fun
  | [d1, d2] => { results := [.lit (.bool false)], args := [d1, d2] }
  | _ => none }
def FnExactFormsForWrongFalsely : Prop := fnExactFormsForRow.holds Try.pinned (OpenSpec.ofChange fnExactFormsForWrong)

/- THE SECOND FORM. 'bulk': how many values and letters a reading holds, each counted each time it is reached (what is shared counts as often as it is met; a slice's spare places count too). A statement '..UptoSaid' is the law's where the arguments, and the package variables that the reading takes, are together of bulk at most 1048576: NARROWER than '..Said'. Prove '..Said' where nothing that the law and all that it calls make is longer than what came in: it says more and counts as full. Else prove '..UptoSaid'. A law counts once. -/
mutual
def uptoBulk {H : Type} : DataW H → Nat
  | .lit (.string bytes) => bytes.length + 1
  | .lit _ => 1
  | .nil => 1
  | .ptr d => uptoBulk d + 1
  | .slice elems spare => uptoBulkAll elems + uptoBulkAll spare + 1
  | .agg parts => uptoBulkAll parts + 1
  | .iface _ d => uptoBulk d + 1
  | .map entries => uptoBulkEntries entries + 1
  | .held _ => 1
def uptoBulkAll {H : Type} : List (DataW H) → Nat
  | [] => 0
  | d :: r => uptoBulk d + uptoBulkAll r
def uptoBulkEntries {H : Type} : List (Lit × DataW H) → Nat
  | [] => 0
  | x :: r => uptoBulkEntry x + uptoBulkEntries r
def uptoBulkEntry {H : Type} : Lit × DataW H → Nat
  | (.string bytes, d) => bytes.length + uptoBulk d + 1
  | (_, d) => uptoBulk d + 1
 end
def uptoSmall : (H : Type) → List (DataW H) → Bool := fun _ ds => decide (uptoBulkAll ds ≤ 1048576)
def OpenSpec.upto (s : _root_.Go.ChangeSpec) : _root_.Go.OpenSpec := { _root_.Go.OpenSpec.ofChange s with cond := some uptoSmall }

/-- 'laws.FnExactTwoSquares', WHERE WHAT IT READS IS OF BULK AT MOST 1048576: true; the input reads as it did. -/
def fnExactTwoSquaresUptoRow : OpenClaim := { program := "ytodbmnbahldabaa", sum := "29a25ddbe18122a0a6299241c1d368ff59f1929bb3e5848b5b5f75209ff53155", func := "loop.example/g01007/laws.FnExactTwoSquares", spec := "fnExactTwoSquares", inPlace := ["math.sqrt"], apart := false, narrowed := true }
def FnExactTwoSquaresUptoSaid : Prop := fnExactTwoSquaresUptoRow.holds Try.pinned (OpenSpec.upto fnExactTwoSquaresSpec)

/-- 'laws.FnExactCountSquares', WHERE WHAT IT READS IS OF BULK AT MOST 1048576: true; the input reads as it did. -/
def fnExactCountSquaresUptoRow : OpenClaim := { program := "ytodbmnbahldabaa", sum := "29a25ddbe18122a0a6299241c1d368ff59f1929bb3e5848b5b5f75209ff53155", func := "loop.example/g01007/laws.FnExactCountSquares", spec := "fnExactCountSquares", inPlace := ["math.sqrt"], apart := false, narrowed := true }
def FnExactCountSquaresUptoSaid : Prop := fnExactCountSquaresUptoRow.holds Try.pinned (OpenSpec.upto fnExactCountSquaresSpec)

/-- 'laws.FnSquares', WHERE WHAT IT READS IS OF BULK AT MOST 1048576: true; the input reads as it did. -/
def fnSquaresUptoRow : OpenClaim := { program := "ytodbmnbahldabaa", sum := "29a25ddbe18122a0a6299241c1d368ff59f1929bb3e5848b5b5f75209ff53155", func := "loop.example/g01007/laws.FnSquares", spec := "fnSquares", inPlace := ["math.sqrt"], apart := false, narrowed := true }
def FnSquaresUptoSaid : Prop := fnSquaresUptoRow.holds Try.pinned (OpenSpec.upto fnSquaresSpec)

/-- 'laws.FnExactRepresentBy', WHERE WHAT IT READS IS OF BULK AT MOST 1048576: true; the input reads as it did. -/
def fnExactRepresentByUptoRow : OpenClaim := { program := "ytodbmnbahldabaa", sum := "29a25ddbe18122a0a6299241c1d368ff59f1929bb3e5848b5b5f75209ff53155", func := "loop.example/g01007/laws.FnExactRepresentBy", spec := "fnExactRepresentBy", inPlace := ["math.sqrt"], apart := false, narrowed := true }
def FnExactRepresentByUptoSaid : Prop := fnExactRepresentByUptoRow.holds Try.pinned (OpenSpec.upto fnExactRepresentBySpec)

/-- 'laws.FnExactCountRepresent', WHERE WHAT IT READS IS OF BULK AT MOST 1048576: true; the input reads as it did. -/
def fnExactCountRepresentUptoRow : OpenClaim := { program := "ytodbmnbahldabaa", sum := "29a25ddbe18122a0a6299241c1d368ff59f1929bb3e5848b5b5f75209ff53155", func := "loop.example/g01007/laws.FnExactCountRepresent", spec := "fnExactCountRepresent", inPlace := ["math.sqrt"], apart := false, narrowed := true }
def FnExactCountRepresentUptoSaid : Prop := fnExactCountRepresentUptoRow.holds Try.pinned (OpenSpec.upto fnExactCountRepresentSpec)

/-- 'laws.FnExactShownBy', WHERE WHAT IT READS IS OF BULK AT MOST 1048576: true; the input reads as it did. -/
def fnExactShownByUptoRow : OpenClaim := { program := "ytodbmnbahldabaa", sum := "29a25ddbe18122a0a6299241c1d368ff59f1929bb3e5848b5b5f75209ff53155", func := "loop.example/g01007/laws.FnExactShownBy", spec := "fnExactShownBy", inPlace := ["math.sqrt"], apart := false, narrowed := true }
def FnExactShownByUptoSaid : Prop := fnExactShownByUptoRow.holds Try.pinned (OpenSpec.upto fnExactShownBySpec)

/-- 'laws.FnExactFormsFor', WHERE WHAT IT READS IS OF BULK AT MOST 1048576: true; the input reads as it did. -/
def fnExactFormsForUptoRow : OpenClaim := { program := "ytodbmnbahldabaa", sum := "29a25ddbe18122a0a6299241c1d368ff59f1929bb3e5848b5b5f75209ff53155", func := "loop.example/g01007/laws.FnExactFormsFor", spec := "fnExactFormsFor", inPlace := ["math.sqrt"], apart := false, narrowed := true }
def FnExactFormsForUptoSaid : Prop := fnExactFormsForUptoRow.holds Try.pinned (OpenSpec.upto fnExactFormsForSpec)

end Rows
end Go.Proofs.Ytodbmnbahldabaa
