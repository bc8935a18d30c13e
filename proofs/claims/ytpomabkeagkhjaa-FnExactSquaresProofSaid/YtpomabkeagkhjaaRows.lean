/-
  No cell of these rows narrows 'for every input' (looked for: loops, veiled, ifaces, maps, wideKeys, modest, calm, conditions, laid).
  DERIVED. THE GIVEN ROWS OF THIS SEAT. 12 by the template 'for every input the law returns true; each argument reads behind the call as it read before'; 0 by the template 'total and deterministic' (their statements: YtpomabkeagkhjaaTotals.lean).
  GIVEN WITH THE SEED: the statements are not yours to turn. If you find one false, say at which input.
  Laid BY PROGRAM, IN A SANDBOX (cutbox-rows.mjs): the forced cells as the released guide's own fill.sh prints them over the translation 48d580e034090b9b… (all of the seat's roots in one cut). By AI agents, Wed Nov 11 2026. No macro, syntax, notation, axiom, sorry.
-/
import Derived.Test.YtpomabkeagkhjaaChecked
import GoSem.Claim
import GoSem.ClaimJoined
import GoSem.ClaimMapViews
import Derived.JoinedTies
import Derived.KernelRfl
namespace Go.Proofs.Ytpomabkeagkhjaa
/- THE CELL 'sum', in the pinned program and in every row, IS THE sha256 OF THE DUMP (.gsa) THAT YtpomabkeagkhjaaProg.lean LOADS. Nothing in Lean hashes anything: it is a label: what it is worth is what the hold of that sum in a sandbox is worth. -/
noncomputable def Try.pinned : Pinned := { name := "ytpomabkeagkhjaa", sum := "48d580e034090b9be45a30a861d7de7e5e3ee5baaa393b6bf1a8ef930e829cfc", checked := Try.checked }
namespace Rows
def none {H : Type} : Left H := { results := [], args := [] }

/-- 'laws.FnExactOpName': WHATEVER THE INPUT: true; the input reads as it did. -/
def fnExactOpNameSpec : ChangeSpec := { name := "fnExactOpName", fn := fun _ => fun
  | [d] => { results := [.lit (.bool true)], args := [d] }
  | _ => none }
def fnExactOpNameRow : OpenClaim := { program := "ytpomabkeagkhjaa", sum := "48d580e034090b9be45a30a861d7de7e5e3ee5baaa393b6bf1a8ef930e829cfc", func := "loop.example/g01007/laws.FnExactOpName", spec := "fnExactOpName", apart := false }
def FnExactOpNameSaid : Prop := fnExactOpNameRow.holds Try.pinned (OpenSpec.ofChange fnExactOpNameSpec)

/-- ITS FALSE NEIGHBOUR: 'it returns false'. Refute it at one input. -/
def fnExactOpNameWrong : ChangeSpec := { name := "fnExactOpName", fn := fun _ => fun
  | [d] => { results := [.lit (.bool false)], args := [d] }
  | _ => none }
def FnExactOpNameWrongFalsely : Prop := fnExactOpNameRow.holds Try.pinned (OpenSpec.ofChange fnExactOpNameWrong)

/-- 'laws.FnExactValidState': WHATEVER THE INPUT: true; the input reads as it did. -/
def fnExactValidStateSpec : ChangeSpec := { name := "fnExactValidState", fn := fun _ => fun
  | [d] => { results := [.lit (.bool true)], args := [d] }
  | _ => none }
def fnExactValidStateRow : OpenClaim := { program := "ytpomabkeagkhjaa", sum := "48d580e034090b9be45a30a861d7de7e5e3ee5baaa393b6bf1a8ef930e829cfc", func := "loop.example/g01007/laws.FnExactValidState", spec := "fnExactValidState", apart := false }
def FnExactValidStateSaid : Prop := fnExactValidStateRow.holds Try.pinned (OpenSpec.ofChange fnExactValidStateSpec)

/-- ITS FALSE NEIGHBOUR: 'it returns false'. Refute it at one input. -/
def fnExactValidStateWrong : ChangeSpec := { name := "fnExactValidState", fn := fun _ => fun
  | [d] => { results := [.lit (.bool false)], args := [d] }
  | _ => none }
def FnExactValidStateWrongFalsely : Prop := fnExactValidStateRow.holds Try.pinned (OpenSpec.ofChange fnExactValidStateWrong)

/-- 'laws.FnExactMinusRoot': WHATEVER THE INPUT: true; the input reads as it did. -/
def fnExactMinusRootSpec : ChangeSpec := { name := "fnExactMinusRoot", fn := fun _ => fun
  | [d] => { results := [.lit (.bool true)], args := [d] }
  | _ => none }
def fnExactMinusRootRow : OpenClaim := { program := "ytpomabkeagkhjaa", sum := "48d580e034090b9be45a30a861d7de7e5e3ee5baaa393b6bf1a8ef930e829cfc", func := "loop.example/g01007/laws.FnExactMinusRoot", spec := "fnExactMinusRoot", apart := false }
def FnExactMinusRootSaid : Prop := fnExactMinusRootRow.holds Try.pinned (OpenSpec.ofChange fnExactMinusRootSpec)

/-- ITS FALSE NEIGHBOUR: 'it returns false'. Refute it at one input. -/
def fnExactMinusRootWrong : ChangeSpec := { name := "fnExactMinusRoot", fn := fun _ => fun
  | [d] => { results := [.lit (.bool false)], args := [d] }
  | _ => none }
def FnExactMinusRootWrongFalsely : Prop := fnExactMinusRootRow.holds Try.pinned (OpenSpec.ofChange fnExactMinusRootWrong)

/-- 'laws.FnExactSquaresFromRoot': WHATEVER THE INPUT: true; the input reads as it did. -/
def fnExactSquaresFromRootSpec : ChangeSpec := { name := "fnExactSquaresFromRoot", fn := fun _ => fun
  | [d1, d2] => { results := [.lit (.bool true)], args := [d1, d2] }
  | _ => none }
def fnExactSquaresFromRootRow : OpenClaim := { program := "ytpomabkeagkhjaa", sum := "48d580e034090b9be45a30a861d7de7e5e3ee5baaa393b6bf1a8ef930e829cfc", func := "loop.example/g01007/laws.FnExactSquaresFromRoot", spec := "fnExactSquaresFromRoot", apart := false }
def FnExactSquaresFromRootSaid : Prop := fnExactSquaresFromRootRow.holds Try.pinned (OpenSpec.ofChange fnExactSquaresFromRootSpec)

/-- ITS FALSE NEIGHBOUR: 'it returns false'. Refute it at one input. -/
def fnExactSquaresFromRootWrong : ChangeSpec := { name := "fnExactSquaresFromRoot", fn := fun _ => fun
  | [d1, d2] => { results := [.lit (.bool false)], args := [d1, d2] }
  | _ => none }
def FnExactSquaresFromRootWrongFalsely : Prop := fnExactSquaresFromRootRow.holds Try.pinned (OpenSpec.ofChange fnExactSquaresFromRootWrong)

/-- 'laws.FnExactValidDouble': WHATEVER THE INPUT: true; the input reads as it did. -/
def fnExactValidDoubleSpec : ChangeSpec := { name := "fnExactValidDouble", fn := fun _ => fun
  | [d] => { results := [.lit (.bool true)], args := [d] }
  | _ => none }
def fnExactValidDoubleRow : OpenClaim := { program := "ytpomabkeagkhjaa", sum := "48d580e034090b9be45a30a861d7de7e5e3ee5baaa393b6bf1a8ef930e829cfc", func := "loop.example/g01007/laws.FnExactValidDouble", spec := "fnExactValidDouble", apart := false }
def FnExactValidDoubleSaid : Prop := fnExactValidDoubleRow.holds Try.pinned (OpenSpec.ofChange fnExactValidDoubleSpec)

/-- ITS FALSE NEIGHBOUR: 'it returns false'. Refute it at one input. -/
def fnExactValidDoubleWrong : ChangeSpec := { name := "fnExactValidDouble", fn := fun _ => fun
  | [d] => { results := [.lit (.bool false)], args := [d] }
  | _ => none }
def FnExactValidDoubleWrongFalsely : Prop := fnExactValidDoubleRow.holds Try.pinned (OpenSpec.ofChange fnExactValidDoubleWrong)

/-- 'laws.FnExactSquaresProof': WHATEVER THE INPUT: true; the input reads as it did. -/
def fnExactSquaresProofSpec : ChangeSpec := { name := "fnExactSquaresProof", fn := fun _ => fun
  | [d] => { results := [.lit (.bool true)], args := [d] }
  | _ => none }
def fnExactSquaresProofRow : OpenClaim := { program := "ytpomabkeagkhjaa", sum := "48d580e034090b9be45a30a861d7de7e5e3ee5baaa393b6bf1a8ef930e829cfc", func := "loop.example/g01007/laws.FnExactSquaresProof", spec := "fnExactSquaresProof", apart := false }
def FnExactSquaresProofSaid : Prop := fnExactSquaresProofRow.holds Try.pinned (OpenSpec.ofChange fnExactSquaresProofSpec)

/-- ITS FALSE NEIGHBOUR: 'it returns false'. Refute it at one input. -/
def fnExactSquaresProofWrong : ChangeSpec := { name := "fnExactSquaresProof", fn := fun _ => fun
  | [d] => { results := [.lit (.bool false)], args := [d] }
  | _ => none }
def FnExactSquaresProofWrongFalsely : Prop := fnExactSquaresProofRow.holds Try.pinned (OpenSpec.ofChange fnExactSquaresProofWrong)

/-- 'laws.FnExactBackState': WHATEVER THE INPUT: true; the input reads as it did. -/
def fnExactBackStateSpec : ChangeSpec := { name := "fnExactBackState", fn := fun _ => fun
  | [d] => { results := [.lit (.bool true)], args := [d] }
  | _ => none }
def fnExactBackStateRow : OpenClaim := { program := "ytpomabkeagkhjaa", sum := "48d580e034090b9be45a30a861d7de7e5e3ee5baaa393b6bf1a8ef930e829cfc", func := "loop.example/g01007/laws.FnExactBackState", spec := "fnExactBackState", apart := false }
def FnExactBackStateSaid : Prop := fnExactBackStateRow.holds Try.pinned (OpenSpec.ofChange fnExactBackStateSpec)

/-- ITS FALSE NEIGHBOUR: 'it returns false'. Refute it at one input. -/
def fnExactBackStateWrong : ChangeSpec := { name := "fnExactBackState", fn := fun _ => fun
  | [d] => { results := [.lit (.bool false)], args := [d] }
  | _ => none }
def FnExactBackStateWrongFalsely : Prop := fnExactBackStateRow.holds Try.pinned (OpenSpec.ofChange fnExactBackStateWrong)

/-- 'laws.FnExactDoubleFor': WHATEVER THE INPUT: true; the input reads as it did. -/
def fnExactDoubleForSpec : ChangeSpec := { name := "fnExactDoubleFor", fn := fun _ => fun
  | [d] => { results := [.lit (.bool true)], args := [d] }
  | _ => none }
def fnExactDoubleForRow : OpenClaim := { program := "ytpomabkeagkhjaa", sum := "48d580e034090b9be45a30a861d7de7e5e3ee5baaa393b6bf1a8ef930e829cfc", func := "loop.example/g01007/laws.FnExactDoubleFor", spec := "fnExactDoubleFor", apart := false }
def FnExactDoubleForSaid : Prop := fnExactDoubleForRow.holds Try.pinned (OpenSpec.ofChange fnExactDoubleForSpec)

/-- ITS FALSE NEIGHBOUR: 'it returns false'. Refute it at one input. -/
def fnExactDoubleForWrong : ChangeSpec := { name := "fnExactDoubleFor", fn := fun _ => fun
  | [d] => { results := [.lit (.bool false)], args := [d] }
  | _ => none }
def FnExactDoubleForWrongFalsely : Prop := fnExactDoubleForRow.holds Try.pinned (OpenSpec.ofChange fnExactDoubleForWrong)

/-- 'laws.FnExactFeedTerm': WHATEVER THE INPUT: true; the input reads as it did. -/
def fnExactFeedTermSpec : ChangeSpec := { name := "fnExactFeedTerm", fn := fun _ => fun
  | [d1, d2] => { results := [.lit (.bool true)], args := [d1, d2] }
  | _ => none }
def fnExactFeedTermRow : OpenClaim := { program := "ytpomabkeagkhjaa", sum := "48d580e034090b9be45a30a861d7de7e5e3ee5baaa393b6bf1a8ef930e829cfc", func := "loop.example/g01007/laws.FnExactFeedTerm", spec := "fnExactFeedTerm", apart := false }
def FnExactFeedTermSaid : Prop := fnExactFeedTermRow.holds Try.pinned (OpenSpec.ofChange fnExactFeedTermSpec)

/-- ITS FALSE NEIGHBOUR: 'it returns false'. Refute it at one input. -/
def fnExactFeedTermWrong : ChangeSpec := { name := "fnExactFeedTerm", fn := fun _ => fun
  | [d1, d2] => { results := [.lit (.bool false)], args := [d1, d2] }
  | _ => none }
def FnExactFeedTermWrongFalsely : Prop := fnExactFeedTermRow.holds Try.pinned (OpenSpec.ofChange fnExactFeedTermWrong)

/-- 'laws.FnExactSwapDouble': WHATEVER THE INPUT: true; the input reads as it did. -/
def fnExactSwapDoubleSpec : ChangeSpec := { name := "fnExactSwapDouble", fn := fun _ => fun
  | [d] => { results := [.lit (.bool true)], args := [d] }
  | _ => none }
def fnExactSwapDoubleRow : OpenClaim := { program := "ytpomabkeagkhjaa", sum := "48d580e034090b9be45a30a861d7de7e5e3ee5baaa393b6bf1a8ef930e829cfc", func := "loop.example/g01007/laws.FnExactSwapDouble", spec := "fnExactSwapDouble", apart := false }
def FnExactSwapDoubleSaid : Prop := fnExactSwapDoubleRow.holds Try.pinned (OpenSpec.ofChange fnExactSwapDoubleSpec)

/-- ITS FALSE NEIGHBOUR: 'it returns false'. Refute it at one input. -/
def fnExactSwapDoubleWrong : ChangeSpec := { name := "fnExactSwapDouble", fn := fun _ => fun
  | [d] => { results := [.lit (.bool false)], args := [d] }
  | _ => none }
def FnExactSwapDoubleWrongFalsely : Prop := fnExactSwapDoubleRow.holds Try.pinned (OpenSpec.ofChange fnExactSwapDoubleWrong)

/-- 'laws.FnExactEndFirst': WHATEVER THE INPUT: true; the input reads as it did. -/
def fnExactEndFirstSpec : ChangeSpec := { name := "fnExactEndFirst", fn := fun _ => fun
  | [d] => { results := [.lit (.bool true)], args := [d] }
  | _ => none }
def fnExactEndFirstRow : OpenClaim := { program := "ytpomabkeagkhjaa", sum := "48d580e034090b9be45a30a861d7de7e5e3ee5baaa393b6bf1a8ef930e829cfc", func := "loop.example/g01007/laws.FnExactEndFirst", spec := "fnExactEndFirst", unfollowed := true, recurses := true, apart := false }
def FnExactEndFirstSaid : Prop := fnExactEndFirstRow.holds Try.pinned (OpenSpec.ofChange fnExactEndFirstSpec)

/-- ITS FALSE NEIGHBOUR: 'it returns false'. Refute it at one input. -/
def fnExactEndFirstWrong : ChangeSpec := { name := "fnExactEndFirst", fn := fun _ => fun
  | [d] => { results := [.lit (.bool false)], args := [d] }
  | _ => none }
def FnExactEndFirstWrongFalsely : Prop := fnExactEndFirstRow.holds Try.pinned (OpenSpec.ofChange fnExactEndFirstWrong)

/-- 'laws.FnExactEndSecond': WHATEVER THE INPUT: true; the input reads as it did. -/
def fnExactEndSecondSpec : ChangeSpec := { name := "fnExactEndSecond", fn := fun _ => fun
  | [d] => { results := [.lit (.bool true)], args := [d] }
  | _ => none }
def fnExactEndSecondRow : OpenClaim := { program := "ytpomabkeagkhjaa", sum := "48d580e034090b9be45a30a861d7de7e5e3ee5baaa393b6bf1a8ef930e829cfc", func := "loop.example/g01007/laws.FnExactEndSecond", spec := "fnExactEndSecond", unfollowed := true, recurses := true, apart := false }
def FnExactEndSecondSaid : Prop := fnExactEndSecondRow.holds Try.pinned (OpenSpec.ofChange fnExactEndSecondSpec)

/-- ITS FALSE NEIGHBOUR: 'it returns false'. Refute it at one input. -/
def fnExactEndSecondWrong : ChangeSpec := { name := "fnExactEndSecond", fn := fun _ => fun
  | [d] => { results := [.lit (.bool false)], args := [d] }
  | _ => none }
def FnExactEndSecondWrongFalsely : Prop := fnExactEndSecondRow.holds Try.pinned (OpenSpec.ofChange fnExactEndSecondWrong)

/- THE SECOND FORM. 'bulk': how many values and letters a reading holds, each counted each time it is reached (what is shared counts as often as it is met; a slice's spare places count too). A statement '..UptoSaid' is the law's where the arguments, and the package variables that the reading takes, are together of bulk at most 1048576: NARROWER than '..Said'. Prove '..Said' where nothing that the law and all that it calls make is longer than what came in: it says more and counts as full. Else prove '..UptoSaid'. A law counts once. -/
mutual
def uptoBulk {H : Type} : DataW H → Nat
  | .lit (.string bytes) => bytes.length + 1
  | .lit _ => 1
  | .nil => 1
  | .ptr d => uptoBulk d + 1
  | .slice elems spare => uptoBulkAll elems + uptoBulkAll spare + 1
  | .agg parts => uptoBulkAll parts + 1
  | .iface _ d => uptoBulk d + 1
  | .map entries => uptoBulkEntries entries + 1
  | .held _ => 1
def uptoBulkAll {H : Type} : List (DataW H) → Nat
  | [] => 0
  | d :: r => uptoBulk d + uptoBulkAll r
def uptoBulkEntries {H : Type} : List (Lit × DataW H) → Nat
  | [] => 0
  | x :: r => uptoBulkEntry x + uptoBulkEntries r
def uptoBulkEntry {H : Type} : Lit × DataW H → Nat
  | (.string bytes, d) => bytes.length + uptoBulk d + 1
  | (_, d) => uptoBulk d + 1
 end
def uptoSmall : (H : Type) → List (DataW H) → Bool := fun _ ds => decide (uptoBulkAll ds ≤ 1048576)
def OpenSpec.upto (s : _root_.Go.ChangeSpec) : _root_.Go.OpenSpec := { _root_.Go.OpenSpec.ofChange s with cond := some uptoSmall }

/-- 'laws.FnExactOpName', WHERE WHAT IT READS IS OF BULK AT MOST 1048576: true; the input reads as it did. -/
def fnExactOpNameUptoRow : OpenClaim := { program := "ytpomabkeagkhjaa", sum := "48d580e034090b9be45a30a861d7de7e5e3ee5baaa393b6bf1a8ef930e829cfc", func := "loop.example/g01007/laws.FnExactOpName", spec := "fnExactOpName", apart := false, narrowed := true }
def FnExactOpNameUptoSaid : Prop := fnExactOpNameUptoRow.holds Try.pinned (OpenSpec.upto fnExactOpNameSpec)

/-- 'laws.FnExactValidState', WHERE WHAT IT READS IS OF BULK AT MOST 1048576: true; the input reads as it did. -/
def fnExactValidStateUptoRow : OpenClaim := { program := "ytpomabkeagkhjaa", sum := "48d580e034090b9be45a30a861d7de7e5e3ee5baaa393b6bf1a8ef930e829cfc", func := "loop.example/g01007/laws.FnExactValidState", spec := "fnExactValidState", apart := false, narrowed := true }
def FnExactValidStateUptoSaid : Prop := fnExactValidStateUptoRow.holds Try.pinned (OpenSpec.upto fnExactValidStateSpec)

/-- 'laws.FnExactMinusRoot', WHERE WHAT IT READS IS OF BULK AT MOST 1048576: true; the input reads as it did. -/
def fnExactMinusRootUptoRow : OpenClaim := { program := "ytpomabkeagkhjaa", sum := "48d580e034090b9be45a30a861d7de7e5e3ee5baaa393b6bf1a8ef930e829cfc", func := "loop.example/g01007/laws.FnExactMinusRoot", spec := "fnExactMinusRoot", apart := false, narrowed := true }
def FnExactMinusRootUptoSaid : Prop := fnExactMinusRootUptoRow.holds Try.pinned (OpenSpec.upto fnExactMinusRootSpec)

/-- 'laws.FnExactSquaresFromRoot', WHERE WHAT IT READS IS OF BULK AT MOST 1048576: true; the input reads as it did. -/
def fnExactSquaresFromRootUptoRow : OpenClaim := { program := "ytpomabkeagkhjaa", sum := "48d580e034090b9be45a30a861d7de7e5e3ee5baaa393b6bf1a8ef930e829cfc", func := "loop.example/g01007/laws.FnExactSquaresFromRoot", spec := "fnExactSquaresFromRoot", apart := false, narrowed := true }
def FnExactSquaresFromRootUptoSaid : Prop := fnExactSquaresFromRootUptoRow.holds Try.pinned (OpenSpec.upto fnExactSquaresFromRootSpec)

/-- 'laws.FnExactValidDouble', WHERE WHAT IT READS IS OF BULK AT MOST 1048576: true; the input reads as it did. -/
def fnExactValidDoubleUptoRow : OpenClaim := { program := "ytpomabkeagkhjaa", sum := "48d580e034090b9be45a30a861d7de7e5e3ee5baaa393b6bf1a8ef930e829cfc", func := "loop.example/g01007/laws.FnExactValidDouble", spec := "fnExactValidDouble", apart := false, narrowed := true }
def FnExactValidDoubleUptoSaid : Prop := fnExactValidDoubleUptoRow.holds Try.pinned (OpenSpec.upto fnExactValidDoubleSpec)

/-- 'laws.FnExactSquaresProof', WHERE WHAT IT READS IS OF BULK AT MOST 1048576: true; the input reads as it did. -/
def fnExactSquaresProofUptoRow : OpenClaim := { program := "ytpomabkeagkhjaa", sum := "48d580e034090b9be45a30a861d7de7e5e3ee5baaa393b6bf1a8ef930e829cfc", func := "loop.example/g01007/laws.FnExactSquaresProof", spec := "fnExactSquaresProof", apart := false, narrowed := true }
def FnExactSquaresProofUptoSaid : Prop := fnExactSquaresProofUptoRow.holds Try.pinned (OpenSpec.upto fnExactSquaresProofSpec)

/-- 'laws.FnExactBackState', WHERE WHAT IT READS IS OF BULK AT MOST 1048576: true; the input reads as it did. -/
def fnExactBackStateUptoRow : OpenClaim := { program := "ytpomabkeagkhjaa", sum := "48d580e034090b9be45a30a861d7de7e5e3ee5baaa393b6bf1a8ef930e829cfc", func := "loop.example/g01007/laws.FnExactBackState", spec := "fnExactBackState", apart := false, narrowed := true }
def FnExactBackStateUptoSaid : Prop := fnExactBackStateUptoRow.holds Try.pinned (OpenSpec.upto fnExactBackStateSpec)

/-- 'laws.FnExactDoubleFor', WHERE WHAT IT READS IS OF BULK AT MOST 1048576: true; the input reads as it did. -/
def fnExactDoubleForUptoRow : OpenClaim := { program := "ytpomabkeagkhjaa", sum := "48d580e034090b9be45a30a861d7de7e5e3ee5baaa393b6bf1a8ef930e829cfc", func := "loop.example/g01007/laws.FnExactDoubleFor", spec := "fnExactDoubleFor", apart := false, narrowed := true }
def FnExactDoubleForUptoSaid : Prop := fnExactDoubleForUptoRow.holds Try.pinned (OpenSpec.upto fnExactDoubleForSpec)

/-- 'laws.FnExactFeedTerm', WHERE WHAT IT READS IS OF BULK AT MOST 1048576: true; the input reads as it did. -/
def fnExactFeedTermUptoRow : OpenClaim := { program := "ytpomabkeagkhjaa", sum := "48d580e034090b9be45a30a861d7de7e5e3ee5baaa393b6bf1a8ef930e829cfc", func := "loop.example/g01007/laws.FnExactFeedTerm", spec := "fnExactFeedTerm", apart := false, narrowed := true }
def FnExactFeedTermUptoSaid : Prop := fnExactFeedTermUptoRow.holds Try.pinned (OpenSpec.upto fnExactFeedTermSpec)

/-- 'laws.FnExactSwapDouble', WHERE WHAT IT READS IS OF BULK AT MOST 1048576: true; the input reads as it did. -/
def fnExactSwapDoubleUptoRow : OpenClaim := { program := "ytpomabkeagkhjaa", sum := "48d580e034090b9be45a30a861d7de7e5e3ee5baaa393b6bf1a8ef930e829cfc", func := "loop.example/g01007/laws.FnExactSwapDouble", spec := "fnExactSwapDouble", apart := false, narrowed := true }
def FnExactSwapDoubleUptoSaid : Prop := fnExactSwapDoubleUptoRow.holds Try.pinned (OpenSpec.upto fnExactSwapDoubleSpec)

/-- 'laws.FnExactEndFirst', WHERE WHAT IT READS IS OF BULK AT MOST 1048576: true; the input reads as it did. -/
def fnExactEndFirstUptoRow : OpenClaim := { program := "ytpomabkeagkhjaa", sum := "48d580e034090b9be45a30a861d7de7e5e3ee5baaa393b6bf1a8ef930e829cfc", func := "loop.example/g01007/laws.FnExactEndFirst", spec := "fnExactEndFirst", unfollowed := true, recurses := true, apart := false, narrowed := true }
def FnExactEndFirstUptoSaid : Prop := fnExactEndFirstUptoRow.holds Try.pinned (OpenSpec.upto fnExactEndFirstSpec)

/-- 'laws.FnExactEndSecond', WHERE WHAT IT READS IS OF BULK AT MOST 1048576: true; the input reads as it did. -/
def fnExactEndSecondUptoRow : OpenClaim := { program := "ytpomabkeagkhjaa", sum := "48d580e034090b9be45a30a861d7de7e5e3ee5baaa393b6bf1a8ef930e829cfc", func := "loop.example/g01007/laws.FnExactEndSecond", spec := "fnExactEndSecond", unfollowed := true, recurses := true, apart := false, narrowed := true }
def FnExactEndSecondUptoSaid : Prop := fnExactEndSecondUptoRow.holds Try.pinned (OpenSpec.upto fnExactEndSecondSpec)

end Rows
end Go.Proofs.Ytpomabkeagkhjaa
