/-
  No cell of these rows narrows 'for every input' (looked for: loops, veiled, ifaces, maps, wideKeys, modest, calm, conditions, laid).
  DERIVED. THE GIVEN ROWS OF THIS SEAT. 9 by the template 'for every input the law returns true; each argument reads behind the call as it read before'; 0 by the template 'total and deterministic' (their statements: YtfnjboaocalidaaTotals.lean).
  GIVEN WITH THE SEED: the statements are not yours to turn. If you find one false, say at which input.
  Laid BY PROGRAM, IN A SANDBOX (cutbox-rows.mjs): the forced cells as the released guide's own fill.sh prints them over the translation 37d7fca14f9ca633… (all of the seat's roots in one cut). By AI agents, Wed Nov 11 2026. No macro, syntax, notation, axiom, sorry.
-/
import Derived.Test.YtfnjboaocalidaaChecked
import GoSem.Claim
import GoSem.ClaimJoined
import GoSem.ClaimMapViews
import Derived.JoinedTies
import Derived.KernelRfl
namespace Go.Proofs.Ytfnjboaocalidaa
/- THE CELL 'sum', in the pinned program and in every row, IS THE sha256 OF THE DUMP (.gsa) THAT YtfnjboaocalidaaProg.lean LOADS. Nothing in Lean hashes anything: it is a label: what it is worth is what the hold of that sum in a sandbox is worth. -/
noncomputable def Try.pinned : Pinned := { name := "ytfnjboaocalidaa", sum := "37d7fca14f9ca633558a89f8c48dd1251d91ba8384596809bc1070564db0d49f", checked := Try.checked }
namespace Rows
def none {H : Type} : Left H := { results := [], args := [] }

/-- 'laws.FnExactJoinStates': WHATEVER THE INPUT: true; the input reads as it did. -/
def fnExactJoinStatesSpec : ChangeSpec := { name := "fnExactJoinStates", fn := fun _ => fun
  | [d1, d2] => { results := [.lit (.bool true)], args := [d1, d2] }
  | _ => none }
def fnExactJoinStatesRow : OpenClaim := { program := "ytfnjboaocalidaa", sum := "37d7fca14f9ca633558a89f8c48dd1251d91ba8384596809bc1070564db0d49f", func := "loop.example/g01007/laws.FnExactJoinStates", spec := "fnExactJoinStates", apart := false }
def FnExactJoinStatesSaid : Prop := fnExactJoinStatesRow.holds Try.pinned (OpenSpec.ofChange fnExactJoinStatesSpec)

/-- ITS FALSE NEIGHBOUR: 'it returns false'. Refute it at one input. -/
def fnExactJoinStatesWrong : ChangeSpec := { name := "fnExactJoinStates", fn := fun _ => fun
  | [d1, d2] => { results := [.lit (.bool false)], args := [d1, d2] }
  | _ => none }
def FnExactJoinStatesWrongFalsely : Prop := fnExactJoinStatesRow.holds Try.pinned (OpenSpec.ofChange fnExactJoinStatesWrong)

/-- 'laws.FnExactFeedFirst': WHATEVER THE INPUT: true; the input reads as it did. -/
def fnExactFeedFirstSpec : ChangeSpec := { name := "fnExactFeedFirst", fn := fun _ => fun
  | [d1, d2] => { results := [.lit (.bool true)], args := [d1, d2] }
  | _ => none }
def fnExactFeedFirstRow : OpenClaim := { program := "ytfnjboaocalidaa", sum := "37d7fca14f9ca633558a89f8c48dd1251d91ba8384596809bc1070564db0d49f", func := "loop.example/g01007/laws.FnExactFeedFirst", spec := "fnExactFeedFirst", unfollowed := true, recurses := true, apart := false }
def FnExactFeedFirstSaid : Prop := fnExactFeedFirstRow.holds Try.pinned (OpenSpec.ofChange fnExactFeedFirstSpec)

/-- ITS FALSE NEIGHBOUR: 'it returns false'. Refute it at one input. -/
def fnExactFeedFirstWrong : ChangeSpec := { name := "fnExactFeedFirst", fn := fun _ => fun
  | [d1, d2] => { results := [.lit (.bool false)], args := [d1, d2] }
  | _ => none }
def FnExactFeedFirstWrongFalsely : Prop := fnExactFeedFirstRow.holds Try.pinned (OpenSpec.ofChange fnExactFeedFirstWrong)

/-- 'laws.FnExactFeedSecond': WHATEVER THE INPUT: true; the input reads as it did. -/
def fnExactFeedSecondSpec : ChangeSpec := { name := "fnExactFeedSecond", fn := fun _ => fun
  | [d1, d2] => { results := [.lit (.bool true)], args := [d1, d2] }
  | _ => none }
def fnExactFeedSecondRow : OpenClaim := { program := "ytfnjboaocalidaa", sum := "37d7fca14f9ca633558a89f8c48dd1251d91ba8384596809bc1070564db0d49f", func := "loop.example/g01007/laws.FnExactFeedSecond", spec := "fnExactFeedSecond", unfollowed := true, recurses := true, apart := false }
def FnExactFeedSecondSaid : Prop := fnExactFeedSecondRow.holds Try.pinned (OpenSpec.ofChange fnExactFeedSecondSpec)

/-- ITS FALSE NEIGHBOUR: 'it returns false'. Refute it at one input. -/
def fnExactFeedSecondWrong : ChangeSpec := { name := "fnExactFeedSecond", fn := fun _ => fun
  | [d1, d2] => { results := [.lit (.bool false)], args := [d1, d2] }
  | _ => none }
def FnExactFeedSecondWrongFalsely : Prop := fnExactFeedSecondRow.holds Try.pinned (OpenSpec.ofChange fnExactFeedSecondWrong)

/-- 'laws.FnExactEndState': WHATEVER THE INPUT: true; the input reads as it did. -/
def fnExactEndStateSpec : ChangeSpec := { name := "fnExactEndState", fn := fun _ => fun
  | [d] => { results := [.lit (.bool true)], args := [d] }
  | _ => none }
def fnExactEndStateRow : OpenClaim := { program := "ytfnjboaocalidaa", sum := "37d7fca14f9ca633558a89f8c48dd1251d91ba8384596809bc1070564db0d49f", func := "loop.example/g01007/laws.FnExactEndState", spec := "fnExactEndState", apart := false }
def FnExactEndStateSaid : Prop := fnExactEndStateRow.holds Try.pinned (OpenSpec.ofChange fnExactEndStateSpec)

/-- ITS FALSE NEIGHBOUR: 'it returns false'. Refute it at one input. -/
def fnExactEndStateWrong : ChangeSpec := { name := "fnExactEndState", fn := fun _ => fun
  | [d] => { results := [.lit (.bool false)], args := [d] }
  | _ => none }
def FnExactEndStateWrongFalsely : Prop := fnExactEndStateRow.holds Try.pinned (OpenSpec.ofChange fnExactEndStateWrong)

/-- 'laws.FnExactStateAt': WHATEVER THE INPUT: true; the input reads as it did. -/
def fnExactStateAtSpec : ChangeSpec := { name := "fnExactStateAt", fn := fun _ => fun
  | [d1, d2] => { results := [.lit (.bool true)], args := [d1, d2] }
  | _ => none }
def fnExactStateAtRow : OpenClaim := { program := "ytfnjboaocalidaa", sum := "37d7fca14f9ca633558a89f8c48dd1251d91ba8384596809bc1070564db0d49f", func := "loop.example/g01007/laws.FnExactStateAt", spec := "fnExactStateAt", apart := false }
def FnExactStateAtSaid : Prop := fnExactStateAtRow.holds Try.pinned (OpenSpec.ofChange fnExactStateAtSpec)

/-- ITS FALSE NEIGHBOUR: 'it returns false'. Refute it at one input. -/
def fnExactStateAtWrong : ChangeSpec := { name := "fnExactStateAt", fn := fun _ => fun
  | [d1, d2] => { results := [.lit (.bool false)], args := [d1, d2] }
  | _ => none }
def FnExactStateAtWrongFalsely : Prop := fnExactStateAtRow.holds Try.pinned (OpenSpec.ofChange fnExactStateAtWrong)

/-- 'laws.FnExactEmitTerm': WHATEVER THE INPUT: true; the input reads as it did. -/
def fnExactEmitTermSpec : ChangeSpec := { name := "fnExactEmitTerm", fn := fun _ => fun
  | [d] => { results := [.lit (.bool true)], args := [d] }
  | _ => none }
def fnExactEmitTermRow : OpenClaim := { program := "ytfnjboaocalidaa", sum := "37d7fca14f9ca633558a89f8c48dd1251d91ba8384596809bc1070564db0d49f", func := "loop.example/g01007/laws.FnExactEmitTerm", spec := "fnExactEmitTerm", apart := false }
def FnExactEmitTermSaid : Prop := fnExactEmitTermRow.holds Try.pinned (OpenSpec.ofChange fnExactEmitTermSpec)

/-- ITS FALSE NEIGHBOUR: 'it returns false'. Refute it at one input. -/
def fnExactEmitTermWrong : ChangeSpec := { name := "fnExactEmitTerm", fn := fun _ => fun
  | [d] => { results := [.lit (.bool false)], args := [d] }
  | _ => none }
def FnExactEmitTermWrongFalsely : Prop := fnExactEmitTermRow.holds Try.pinned (OpenSpec.ofChange fnExactEmitTermWrong)

/-- 'laws.FnExactDoubleAt': WHATEVER THE INPUT: true; the input reads as it did. -/
def fnExactDoubleAtSpec : ChangeSpec := { name := "fnExactDoubleAt", fn := fun _ => fun
  | [d1, d2, d3] => { results := [.lit (.bool true)], args := [d1, d2, d3] }
  | _ => none }
def fnExactDoubleAtRow : OpenClaim := { program := "ytfnjboaocalidaa", sum := "37d7fca14f9ca633558a89f8c48dd1251d91ba8384596809bc1070564db0d49f", func := "loop.example/g01007/laws.FnExactDoubleAt", spec := "fnExactDoubleAt", apart := false }
def FnExactDoubleAtSaid : Prop := fnExactDoubleAtRow.holds Try.pinned (OpenSpec.ofChange fnExactDoubleAtSpec)

/-- ITS FALSE NEIGHBOUR: 'it returns false'. Refute it at one input. -/
def fnExactDoubleAtWrong : ChangeSpec := { name := "fnExactDoubleAt", fn := fun _ => fun
  | [d1, d2, d3] => { results := [.lit (.bool false)], args := [d1, d2, d3] }
  | _ => none }
def FnExactDoubleAtWrongFalsely : Prop := fnExactDoubleAtRow.holds Try.pinned (OpenSpec.ofChange fnExactDoubleAtWrong)

/-- 'laws.FnExactEmitDouble': WHATEVER THE INPUT: true; the input reads as it did. -/
def fnExactEmitDoubleSpec : ChangeSpec := { name := "fnExactEmitDouble", fn := fun _ => fun
  | [d] => { results := [.lit (.bool true)], args := [d] }
  | _ => none }
def fnExactEmitDoubleRow : OpenClaim := { program := "ytfnjboaocalidaa", sum := "37d7fca14f9ca633558a89f8c48dd1251d91ba8384596809bc1070564db0d49f", func := "loop.example/g01007/laws.FnExactEmitDouble", spec := "fnExactEmitDouble", apart := false }
def FnExactEmitDoubleSaid : Prop := fnExactEmitDoubleRow.holds Try.pinned (OpenSpec.ofChange fnExactEmitDoubleSpec)

/-- ITS FALSE NEIGHBOUR: 'it returns false'. Refute it at one input. -/
def fnExactEmitDoubleWrong : ChangeSpec := { name := "fnExactEmitDouble", fn := fun _ => fun
  | [d] => { results := [.lit (.bool false)], args := [d] }
  | _ => none }
def FnExactEmitDoubleWrongFalsely : Prop := fnExactEmitDoubleRow.holds Try.pinned (OpenSpec.ofChange fnExactEmitDoubleWrong)

/-- 'laws.FnEmits': WHATEVER THE INPUT: true; the input reads as it did. -/
def fnEmitsSpec : ChangeSpec := { name := "fnEmits", fn := fun _ => fun
  | [d1, d2] => { results := [.lit (.bool true)], args := [d1, d2] }
  | _ => none }
def fnEmitsRow : OpenClaim := { program := "ytfnjboaocalidaa", sum := "37d7fca14f9ca633558a89f8c48dd1251d91ba8384596809bc1070564db0d49f", func := "loop.example/g01007/laws.FnEmits", spec := "fnEmits", apart := false }
def FnEmitsSaid : Prop := fnEmitsRow.holds Try.pinned (OpenSpec.ofChange fnEmitsSpec)

/-- ITS FALSE NEIGHBOUR: 'it returns false'. Refute it at one input. -/
def fnEmitsWrong : ChangeSpec := { name := "fnEmits", fn := fun _ => fun
  | [d1, d2] => { results := [.lit (.bool false)], args := [d1, d2] }
  | _ => none }
def FnEmitsWrongFalsely : Prop := fnEmitsRow.holds Try.pinned (OpenSpec.ofChange fnEmitsWrong)

/- THE SECOND FORM. 'bulk': how many values and letters a reading holds, each counted each time it is reached (what is shared counts as often as it is met; a slice's spare places count too). A statement '..UptoSaid' is the law's where the arguments, and the package variables that the reading takes, are together of bulk at most 1048576: NARROWER than '..Said'. Prove '..Said' where nothing that the law and all that it calls make is longer than what came in: it says more and counts as full. Else prove '..UptoSaid'. A law counts once. -/
mutual
def uptoBulk {H : Type} : DataW H → Nat
  | .lit (.string bytes) => bytes.length + 1
  | .lit _ => 1
  | .nil => 1
  | .ptr d => uptoBulk d + 1
  | .slice elems spare => uptoBulkAll elems + uptoBulkAll spare + 1
  | .agg parts => uptoBulkAll parts + 1
  | .iface _ d => uptoBulk d + 1
  | .map entries => uptoBulkEntries entries + 1
  | .held _ => 1
def uptoBulkAll {H : Type} : List (DataW H) → Nat
  | [] => 0
  | d :: r => uptoBulk d + uptoBulkAll r
def uptoBulkEntries {H : Type} : List (Lit × DataW H) → Nat
  | [] => 0
  | x :: r => uptoBulkEntry x + uptoBulkEntries r
def uptoBulkEntry {H : Type} : Lit × DataW H → Nat
  | (.string bytes, d) => bytes.length + uptoBulk d + 1
  | (_, d) => uptoBulk d + 1
 end
def uptoSmall : (H : Type) → List (DataW H) → Bool := fun _ ds => decide (uptoBulkAll ds ≤ 1048576)
def OpenSpec.upto (s : _root_.Go.ChangeSpec) : _root_.Go.OpenSpec := { _root_.Go.OpenSpec.ofChange s with cond := some uptoSmall }

/-- 'laws.FnExactJoinStates', WHERE WHAT IT READS IS OF BULK AT MOST 1048576: true; the input reads as it did. -/
def fnExactJoinStatesUptoRow : OpenClaim := { program := "ytfnjboaocalidaa", sum := "37d7fca14f9ca633558a89f8c48dd1251d91ba8384596809bc1070564db0d49f", func := "loop.example/g01007/laws.FnExactJoinStates", spec := "fnExactJoinStates", apart := false, narrowed := true }
def FnExactJoinStatesUptoSaid : Prop := fnExactJoinStatesUptoRow.holds Try.pinned (OpenSpec.upto fnExactJoinStatesSpec)

/-- 'laws.FnExactFeedFirst', WHERE WHAT IT READS IS OF BULK AT MOST 1048576: true; the input reads as it did. -/
def fnExactFeedFirstUptoRow : OpenClaim := { program := "ytfnjboaocalidaa", sum := "37d7fca14f9ca633558a89f8c48dd1251d91ba8384596809bc1070564db0d49f", func := "loop.example/g01007/laws.FnExactFeedFirst", spec := "fnExactFeedFirst", unfollowed := true, recurses := true, apart := false, narrowed := true }
def FnExactFeedFirstUptoSaid : Prop := fnExactFeedFirstUptoRow.holds Try.pinned (OpenSpec.upto fnExactFeedFirstSpec)

/-- 'laws.FnExactFeedSecond', WHERE WHAT IT READS IS OF BULK AT MOST 1048576: true; the input reads as it did. -/
def fnExactFeedSecondUptoRow : OpenClaim := { program := "ytfnjboaocalidaa", sum := "37d7fca14f9ca633558a89f8c48dd1251d91ba8384596809bc1070564db0d49f", func := "loop.example/g01007/laws.FnExactFeedSecond", spec := "fnExactFeedSecond", unfollowed := true, recurses := true, apart := false, narrowed := true }
def FnExactFeedSecondUptoSaid : Prop := fnExactFeedSecondUptoRow.holds Try.pinned (OpenSpec.upto fnExactFeedSecondSpec)

/-- 'laws.FnExactEndState', WHERE WHAT IT READS IS OF BULK AT MOST 1048576: true; the input reads as it did. -/
def fnExactEndStateUptoRow : OpenClaim := { program := "ytfnjboaocalidaa", sum := "37d7fca14f9ca633558a89f8c48dd1251d91ba8384596809bc1070564db0d49f", func := "loop.example/g01007/laws.FnExactEndState", spec := "fnExactEndState", apart := false, narrowed := true }
def FnExactEndStateUptoSaid : Prop := fnExactEndStateUptoRow.holds Try.pinned (OpenSpec.upto fnExactEndStateSpec)

/-- 'laws.FnExactStateAt', WHERE WHAT IT READS IS OF BULK AT MOST 1048576: true; the input reads as it did. -/
def fnExactStateAtUptoRow : OpenClaim := { program := "ytfnjboaocalidaa", sum := "37d7fca14f9ca633558a89f8c48dd1251d91ba8384596809bc1070564db0d49f", func := "loop.example/g01007/laws.FnExactStateAt", spec := "fnExactStateAt", apart := false, narrowed := true }
def FnExactStateAtUptoSaid : Prop := fnExactStateAtUptoRow.holds Try.pinned (OpenSpec.upto fnExactStateAtSpec)

/-- 'laws.FnExactEmitTerm', WHERE WHAT IT READS IS OF BULK AT MOST 1048576: true; the input reads as it did. -/
def fnExactEmitTermUptoRow : OpenClaim := { program := "ytfnjboaocalidaa", sum := "37d7fca14f9ca633558a89f8c48dd1251d91ba8384596809bc1070564db0d49f", func := "loop.example/g01007/laws.FnExactEmitTerm", spec := "fnExactEmitTerm", apart := false, narrowed := true }
def FnExactEmitTermUptoSaid : Prop := fnExactEmitTermUptoRow.holds Try.pinned (OpenSpec.upto fnExactEmitTermSpec)

/-- 'laws.FnExactDoubleAt', WHERE WHAT IT READS IS OF BULK AT MOST 1048576: true; the input reads as it did. -/
def fnExactDoubleAtUptoRow : OpenClaim := { program := "ytfnjboaocalidaa", sum := "37d7fca14f9ca633558a89f8c48dd1251d91ba8384596809bc1070564db0d49f", func := "loop.example/g01007/laws.FnExactDoubleAt", spec := "fnExactDoubleAt", apart := false, narrowed := true }
def FnExactDoubleAtUptoSaid : Prop := fnExactDoubleAtUptoRow.holds Try.pinned (OpenSpec.upto fnExactDoubleAtSpec)

/-- 'laws.FnExactEmitDouble', WHERE WHAT IT READS IS OF BULK AT MOST 1048576: true; the input reads as it did. -/
def fnExactEmitDoubleUptoRow : OpenClaim := { program := "ytfnjboaocalidaa", sum := "37d7fca14f9ca633558a89f8c48dd1251d91ba8384596809bc1070564db0d49f", func := "loop.example/g01007/laws.FnExactEmitDouble", spec := "fnExactEmitDouble", apart := false, narrowed := true }
def FnExactEmitDoubleUptoSaid : Prop := fnExactEmitDoubleUptoRow.holds Try.pinned (OpenSpec.upto fnExactEmitDoubleSpec)

/-- 'laws.FnEmits', WHERE WHAT IT READS IS OF BULK AT MOST 1048576: true; the input reads as it did. -/
def fnEmitsUptoRow : OpenClaim := { program := "ytfnjboaocalidaa", sum := "37d7fca14f9ca633558a89f8c48dd1251d91ba8384596809bc1070564db0d49f", func := "loop.example/g01007/laws.FnEmits", spec := "fnEmits", apart := false, narrowed := true }
def FnEmitsUptoSaid : Prop := fnEmitsUptoRow.holds Try.pinned (OpenSpec.upto fnEmitsSpec)

end Rows
end Go.Proofs.Ytfnjboaocalidaa
