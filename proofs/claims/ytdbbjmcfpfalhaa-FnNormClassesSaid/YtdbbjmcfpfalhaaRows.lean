/-
  No cell of these rows narrows 'for every input' (looked for: loops, veiled, ifaces, maps, wideKeys, modest, calm, conditions, laid).
  DERIVED. THE GIVEN ROWS OF THIS SEAT. 10 by the template 'for every input the law returns true; each argument reads behind the call as it read before'; 0 by the template 'total and deterministic' (their statements: YtdbbjmcfpfalhaaTotals.lean).
  GIVEN WITH THE SEED: the statements are not yours to turn. If you find one false, say at which input.
  Laid BY PROGRAM, IN A SANDBOX (cutbox-rows.mjs): the forced cells as the released guide's own fill.sh prints them over the translation c9f6c0cf2ff7c8ff… (all of the seat's roots in one cut). By AI agents, Wed Nov 11 2026. No macro, syntax, notation, axiom, sorry.
-/
import Derived.Test.YtdbbjmcfpfalhaaChecked
import GoSem.Claim
import GoSem.ClaimJoined
import GoSem.ClaimMapViews
import Derived.JoinedTies
import Derived.KernelRfl
namespace Go.Proofs.Ytdbbjmcfpfalhaa
/- THE CELL 'sum', in the pinned program and in every row, IS THE sha256 OF THE DUMP (.gsa) THAT YtdbbjmcfpfalhaaProg.lean LOADS. Nothing in Lean hashes anything: it is a label: what it is worth is what the hold of that sum in a sandbox is worth. -/
noncomputable def Try.pinned : Pinned := { name := "ytdbbjmcfpfalhaa", sum := "c9f6c0cf2ff7c8ff0551e54b9e9199395318085b06a41eba8c3e8bee0c8b6008", checked := Try.checked }
namespace Rows
def none {H : Type} : Left H := { results := [], args := [] }

/-- 'laws.FnExactIsSolution': WHATEVER THE INPUT: true; the input reads as it did. -/
def fnExactIsSolutionSpec : ChangeSpec := { name := "fnExactIsSolution", fn := fun _ => fun
  | [d1, d2, d3] => { results := [.lit (.bool true)], args := [d1, d2, d3] }
  | _ => none }
def fnExactIsSolutionRow : OpenClaim := { program := "ytdbbjmcfpfalhaa", sum := "c9f6c0cf2ff7c8ff0551e54b9e9199395318085b06a41eba8c3e8bee0c8b6008", func := "loop.example/g01007/laws.FnExactIsSolution", spec := "fnExactIsSolution", inPlace := ["math.sqrt"], plainKeys := false, apart := false }
def FnExactIsSolutionSaid : Prop := fnExactIsSolutionRow.holds Try.pinned (OpenSpec.ofChange fnExactIsSolutionSpec)

/-- ITS FALSE NEIGHBOUR: 'it returns false'. Refute it at one input. -/
def fnExactIsSolutionWrong : ChangeSpec := { name := "fnExactIsSolution", fn := fun _ => fun
  | [d1, d2, d3] => { results := [.lit (.bool false)], args := [d1, d2, d3] }
  | _ => none }
def FnExactIsSolutionWrongFalsely : Prop := fnExactIsSolutionRow.holds Try.pinned (OpenSpec.ofChange fnExactIsSolutionWrong)

/-- 'laws.FnExactSameClass': WHATEVER THE INPUT: true; the input reads as it did. -/
def fnExactSameClassSpec : ChangeSpec := { name := "fnExactSameClass", fn := fun _ => fun
  | [d1, d2, d3, d4] => { results := [.lit (.bool true)], args := [d1, d2, d3, d4] }
  | _ => none }
def fnExactSameClassRow : OpenClaim := { program := "ytdbbjmcfpfalhaa", sum := "c9f6c0cf2ff7c8ff0551e54b9e9199395318085b06a41eba8c3e8bee0c8b6008", func := "loop.example/g01007/laws.FnExactSameClass", spec := "fnExactSameClass", inPlace := ["math.sqrt"], plainKeys := false, apart := false }
def FnExactSameClassSaid : Prop := fnExactSameClassRow.holds Try.pinned (OpenSpec.ofChange fnExactSameClassSpec)

/-- ITS FALSE NEIGHBOUR: 'it returns false'. Refute it at one input. -/
def fnExactSameClassWrong : ChangeSpec := { name := "fnExactSameClass", fn := fun _ => fun
  | [d1, d2, d3, d4] => { results := [.lit (.bool false)], args := [d1, d2, d3, d4] }
  | _ => none }
def FnExactSameClassWrongFalsely : Prop := fnExactSameClassRow.holds Try.pinned (OpenSpec.ofChange fnExactSameClassWrong)

/-- 'laws.FnExactProofModulus': WHATEVER THE INPUT: true; the input reads as it did. -/
def fnExactProofModulusSpec : ChangeSpec := { name := "fnExactProofModulus", fn := fun _ => fun
  | [d1, d2] => { results := [.lit (.bool true)], args := [d1, d2] }
  | _ => none }
def fnExactProofModulusRow : OpenClaim := { program := "ytdbbjmcfpfalhaa", sum := "c9f6c0cf2ff7c8ff0551e54b9e9199395318085b06a41eba8c3e8bee0c8b6008", func := "loop.example/g01007/laws.FnExactProofModulus", spec := "fnExactProofModulus", inPlace := ["math.sqrt"], plainKeys := false, apart := false }
def FnExactProofModulusSaid : Prop := fnExactProofModulusRow.holds Try.pinned (OpenSpec.ofChange fnExactProofModulusSpec)

/-- ITS FALSE NEIGHBOUR: 'it returns false'. Refute it at one input. -/
def fnExactProofModulusWrong : ChangeSpec := { name := "fnExactProofModulus", fn := fun _ => fun
  | [d1, d2] => { results := [.lit (.bool false)], args := [d1, d2] }
  | _ => none }
def FnExactProofModulusWrongFalsely : Prop := fnExactProofModulusRow.holds Try.pinned (OpenSpec.ofChange fnExactProofModulusWrong)

/-- 'laws.FnExactSolutionsUpTo': WHATEVER THE INPUT: true; the input reads as it did. -/
def fnExactSolutionsUpToSpec : ChangeSpec := { name := "fnExactSolutionsUpTo", fn := fun _ => fun
  | [d1, d2, d3] => { results := [.lit (.bool true)], args := [d1, d2, d3] }
  | _ => none }
def fnExactSolutionsUpToRow : OpenClaim := { program := "ytdbbjmcfpfalhaa", sum := "c9f6c0cf2ff7c8ff0551e54b9e9199395318085b06a41eba8c3e8bee0c8b6008", func := "loop.example/g01007/laws.FnExactSolutionsUpTo", spec := "fnExactSolutionsUpTo", inPlace := ["math.sqrt"], plainKeys := false, apart := false }
def FnExactSolutionsUpToSaid : Prop := fnExactSolutionsUpToRow.holds Try.pinned (OpenSpec.ofChange fnExactSolutionsUpToSpec)

/-- ITS FALSE NEIGHBOUR: 'it returns false'. Refute it at one input. -/
def fnExactSolutionsUpToWrong : ChangeSpec := { name := "fnExactSolutionsUpTo", fn := fun _ => fun
  | [d1, d2, d3] => { results := [.lit (.bool false)], args := [d1, d2, d3] }
  | _ => none }
def FnExactSolutionsUpToWrongFalsely : Prop := fnExactSolutionsUpToRow.holds Try.pinned (OpenSpec.ofChange fnExactSolutionsUpToWrong)

/-- 'laws.FnExactLookUpTo': WHATEVER THE INPUT: true; the input reads as it did. -/
def fnExactLookUpToSpec : ChangeSpec := { name := "fnExactLookUpTo", fn := fun _ => fun
  | [d1, d2] => { results := [.lit (.bool true)], args := [d1, d2] }
  | _ => none }
def fnExactLookUpToRow : OpenClaim := { program := "ytdbbjmcfpfalhaa", sum := "c9f6c0cf2ff7c8ff0551e54b9e9199395318085b06a41eba8c3e8bee0c8b6008", func := "loop.example/g01007/laws.FnExactLookUpTo", spec := "fnExactLookUpTo", inPlace := ["math.sqrt"], plainKeys := false, apart := false }
def FnExactLookUpToSaid : Prop := fnExactLookUpToRow.holds Try.pinned (OpenSpec.ofChange fnExactLookUpToSpec)

/-- ITS FALSE NEIGHBOUR: 'it returns false'. Refute it at one input. -/
def fnExactLookUpToWrong : ChangeSpec := { name := "fnExactLookUpTo", fn := fun _ => fun
  | [d1, d2] => { results := [.lit (.bool false)], args := [d1, d2] }
  | _ => none }
def FnExactLookUpToWrongFalsely : Prop := fnExactLookUpToRow.holds Try.pinned (OpenSpec.ofChange fnExactLookUpToWrong)

/-- 'laws.FnExactNextOfClass': WHATEVER THE INPUT: true; the input reads as it did. -/
def fnExactNextOfClassSpec : ChangeSpec := { name := "fnExactNextOfClass", fn := fun _ => fun
  | [d1, d2] => { results := [.lit (.bool true)], args := [d1, d2] }
  | _ => none }
def fnExactNextOfClassRow : OpenClaim := { program := "ytdbbjmcfpfalhaa", sum := "c9f6c0cf2ff7c8ff0551e54b9e9199395318085b06a41eba8c3e8bee0c8b6008", func := "loop.example/g01007/laws.FnExactNextOfClass", spec := "fnExactNextOfClass", inPlace := ["math.sqrt"], plainKeys := false, apart := false }
def FnExactNextOfClassSaid : Prop := fnExactNextOfClassRow.holds Try.pinned (OpenSpec.ofChange fnExactNextOfClassSpec)

/-- ITS FALSE NEIGHBOUR: 'it returns false'. Refute it at one input. -/
def fnExactNextOfClassWrong : ChangeSpec := { name := "fnExactNextOfClass", fn := fun _ => fun
  | [d1, d2] => { results := [.lit (.bool false)], args := [d1, d2] }
  | _ => none }
def FnExactNextOfClassWrongFalsely : Prop := fnExactNextOfClassRow.holds Try.pinned (OpenSpec.ofChange fnExactNextOfClassWrong)

/-- 'laws.FnExactLeastSolution': WHATEVER THE INPUT: true; the input reads as it did. -/
def fnExactLeastSolutionSpec : ChangeSpec := { name := "fnExactLeastSolution", fn := fun _ => fun
  | [d1, d2] => { results := [.lit (.bool true)], args := [d1, d2] }
  | _ => none }
def fnExactLeastSolutionRow : OpenClaim := { program := "ytdbbjmcfpfalhaa", sum := "c9f6c0cf2ff7c8ff0551e54b9e9199395318085b06a41eba8c3e8bee0c8b6008", func := "loop.example/g01007/laws.FnExactLeastSolution", spec := "fnExactLeastSolution", inPlace := ["math.sqrt"], plainKeys := false, apart := false }
def FnExactLeastSolutionSaid : Prop := fnExactLeastSolutionRow.holds Try.pinned (OpenSpec.ofChange fnExactLeastSolutionSpec)

/-- ITS FALSE NEIGHBOUR: 'it returns false'. Refute it at one input. -/
def fnExactLeastSolutionWrong : ChangeSpec := { name := "fnExactLeastSolution", fn := fun _ => fun
  | [d1, d2] => { results := [.lit (.bool false)], args := [d1, d2] }
  | _ => none }
def FnExactLeastSolutionWrongFalsely : Prop := fnExactLeastSolutionRow.holds Try.pinned (OpenSpec.ofChange fnExactLeastSolutionWrong)

/-- 'laws.FnExactClassOf': WHATEVER THE INPUT: true; the input reads as it did. -/
def fnExactClassOfSpec : ChangeSpec := { name := "fnExactClassOf", fn := fun _ => fun
  | [d1, d2, d3] => { results := [.lit (.bool true)], args := [d1, d2, d3] }
  | _ => none }
def fnExactClassOfRow : OpenClaim := { program := "ytdbbjmcfpfalhaa", sum := "c9f6c0cf2ff7c8ff0551e54b9e9199395318085b06a41eba8c3e8bee0c8b6008", func := "loop.example/g01007/laws.FnExactClassOf", spec := "fnExactClassOf", inPlace := ["math.sqrt"], plainKeys := false, apart := false }
def FnExactClassOfSaid : Prop := fnExactClassOfRow.holds Try.pinned (OpenSpec.ofChange fnExactClassOfSpec)

/-- ITS FALSE NEIGHBOUR: 'it returns false'. Refute it at one input. -/
def fnExactClassOfWrong : ChangeSpec := { name := "fnExactClassOf", fn := fun _ => fun
  | [d1, d2, d3] => { results := [.lit (.bool false)], args := [d1, d2, d3] }
  | _ => none }
def FnExactClassOfWrongFalsely : Prop := fnExactClassOfRow.holds Try.pinned (OpenSpec.ofChange fnExactClassOfWrong)

/-- 'laws.FnExactClassSolutions': WHATEVER THE INPUT: true; the input reads as it did. -/
def fnExactClassSolutionsSpec : ChangeSpec := { name := "fnExactClassSolutions", fn := fun _ => fun
  | [d1, d2] => { results := [.lit (.bool true)], args := [d1, d2] }
  | _ => none }
def fnExactClassSolutionsRow : OpenClaim := { program := "ytdbbjmcfpfalhaa", sum := "c9f6c0cf2ff7c8ff0551e54b9e9199395318085b06a41eba8c3e8bee0c8b6008", func := "loop.example/g01007/laws.FnExactClassSolutions", spec := "fnExactClassSolutions", inPlace := ["math.sqrt"], plainKeys := false, apart := false }
def FnExactClassSolutionsSaid : Prop := fnExactClassSolutionsRow.holds Try.pinned (OpenSpec.ofChange fnExactClassSolutionsSpec)

/-- ITS FALSE NEIGHBOUR: 'it returns false'. Refute it at one input. -/
def fnExactClassSolutionsWrong : ChangeSpec := { name := "fnExactClassSolutions", fn := fun _ => fun
  | [d1, d2] => { results := [.lit (.bool false)], args := [d1, d2] }
  | _ => none }
def FnExactClassSolutionsWrongFalsely : Prop := fnExactClassSolutionsRow.holds Try.pinned (OpenSpec.ofChange fnExactClassSolutionsWrong)

/-- 'laws.FnNormClasses': WHATEVER THE INPUT: true; the input reads as it did. -/
def fnNormClassesSpec : ChangeSpec := { name := "fnNormClasses", fn := fun _ => fun
  | [d] => { results := [.lit (.bool true)], args := [d] }
  | _ => none }
def fnNormClassesRow : OpenClaim := { program := "ytdbbjmcfpfalhaa", sum := "c9f6c0cf2ff7c8ff0551e54b9e9199395318085b06a41eba8c3e8bee0c8b6008", func := "loop.example/g01007/laws.FnNormClasses", spec := "fnNormClasses", inPlace := ["math.sqrt"], plainKeys := false, apart := false }
def FnNormClassesSaid : Prop := fnNormClassesRow.holds Try.pinned (OpenSpec.ofChange fnNormClassesSpec)

/-- ITS FALSE NEIGHBOUR: 'it returns false'. Refute it at one input. -/
def fnNormClassesWrong : ChangeSpec := { name := "fnNormClasses", fn := fun _ => fun
  | [d] => { results := [.lit (.bool false)], args := [d] }
  | _ => none }
def FnNormClassesWrongFalsely : Prop := fnNormClassesRow.holds Try.pinned (OpenSpec.ofChange fnNormClassesWrong)

/- THE SECOND FORM. 'bulk': how many values and letters a reading holds, each counted each time it is reached (what is shared counts as often as it is met; a slice's spare places count too). A statement '..UptoSaid' is the law's where the arguments, and the package variables that the reading takes, are together of bulk at most 1048576: NARROWER than '..Said'. Prove '..Said' where nothing that the law and all that it calls make is longer than what came in: it says more and counts as full. Else prove '..UptoSaid'. A law counts once. -/
mutual
def uptoBulk {H : Type} : DataW H → Nat
  | .lit (.string bytes) => bytes.length + 1
  | .lit _ => 1
  | .nil => 1
  | .ptr d => uptoBulk d + 1
  | .slice elems spare => uptoBulkAll elems + uptoBulkAll spare + 1
  | .agg parts => uptoBulkAll parts + 1
  | .iface _ d => uptoBulk d + 1
  | .map entries => uptoBulkEntries entries + 1
  | .held _ => 1
def uptoBulkAll {H : Type} : List (DataW H) → Nat
  | [] => 0
  | d :: r => uptoBulk d + uptoBulkAll r
def uptoBulkEntries {H : Type} : List (Lit × DataW H) → Nat
  | [] => 0
  | x :: r => uptoBulkEntry x + uptoBulkEntries r
def uptoBulkEntry {H : Type} : Lit × DataW H → Nat
  | (.string bytes, d) => bytes.length + uptoBulk d + 1
  | (_, d) => uptoBulk d + 1
 end
def uptoSmall : (H : Type) → List (DataW H) → Bool := fun _ ds => decide (uptoBulkAll ds ≤ 1048576)
def OpenSpec.upto (s : _root_.Go.ChangeSpec) : _root_.Go.OpenSpec := { _root_.Go.OpenSpec.ofChange s with cond := some uptoSmall }

/-- 'laws.FnExactIsSolution', WHERE WHAT IT READS IS OF BULK AT MOST 1048576: true; the input reads as it did. -/
def fnExactIsSolutionUptoRow : OpenClaim := { program := "ytdbbjmcfpfalhaa", sum := "c9f6c0cf2ff7c8ff0551e54b9e9199395318085b06a41eba8c3e8bee0c8b6008", func := "loop.example/g01007/laws.FnExactIsSolution", spec := "fnExactIsSolution", inPlace := ["math.sqrt"], plainKeys := false, apart := false, narrowed := true }
def FnExactIsSolutionUptoSaid : Prop := fnExactIsSolutionUptoRow.holds Try.pinned (OpenSpec.upto fnExactIsSolutionSpec)

/-- 'laws.FnExactSameClass', WHERE WHAT IT READS IS OF BULK AT MOST 1048576: true; the input reads as it did. -/
def fnExactSameClassUptoRow : OpenClaim := { program := "ytdbbjmcfpfalhaa", sum := "c9f6c0cf2ff7c8ff0551e54b9e9199395318085b06a41eba8c3e8bee0c8b6008", func := "loop.example/g01007/laws.FnExactSameClass", spec := "fnExactSameClass", inPlace := ["math.sqrt"], plainKeys := false, apart := false, narrowed := true }
def FnExactSameClassUptoSaid : Prop := fnExactSameClassUptoRow.holds Try.pinned (OpenSpec.upto fnExactSameClassSpec)

/-- 'laws.FnExactProofModulus', WHERE WHAT IT READS IS OF BULK AT MOST 1048576: true; the input reads as it did. -/
def fnExactProofModulusUptoRow : OpenClaim := { program := "ytdbbjmcfpfalhaa", sum := "c9f6c0cf2ff7c8ff0551e54b9e9199395318085b06a41eba8c3e8bee0c8b6008", func := "loop.example/g01007/laws.FnExactProofModulus", spec := "fnExactProofModulus", inPlace := ["math.sqrt"], plainKeys := false, apart := false, narrowed := true }
def FnExactProofModulusUptoSaid : Prop := fnExactProofModulusUptoRow.holds Try.pinned (OpenSpec.upto fnExactProofModulusSpec)

/-- 'laws.FnExactSolutionsUpTo', WHERE WHAT IT READS IS OF BULK AT MOST 1048576: true; the input reads as it did. -/
def fnExactSolutionsUpToUptoRow : OpenClaim := { program := "ytdbbjmcfpfalhaa", sum := "c9f6c0cf2ff7c8ff0551e54b9e9199395318085b06a41eba8c3e8bee0c8b6008", func := "loop.example/g01007/laws.FnExactSolutionsUpTo", spec := "fnExactSolutionsUpTo", inPlace := ["math.sqrt"], plainKeys := false, apart := false, narrowed := true }
def FnExactSolutionsUpToUptoSaid : Prop := fnExactSolutionsUpToUptoRow.holds Try.pinned (OpenSpec.upto fnExactSolutionsUpToSpec)

/-- 'laws.FnExactLookUpTo', WHERE WHAT IT READS IS OF BULK AT MOST 1048576: true; the input reads as it did. -/
def fnExactLookUpToUptoRow : OpenClaim := { program := "ytdbbjmcfpfalhaa", sum := "c9f6c0cf2ff7c8ff0551e54b9e9199395318085b06a41eba8c3e8bee0c8b6008", func := "loop.example/g01007/laws.FnExactLookUpTo", spec := "fnExactLookUpTo", inPlace := ["math.sqrt"], plainKeys := false, apart := false, narrowed := true }
def FnExactLookUpToUptoSaid : Prop := fnExactLookUpToUptoRow.holds Try.pinned (OpenSpec.upto fnExactLookUpToSpec)

/-- 'laws.FnExactNextOfClass', WHERE WHAT IT READS IS OF BULK AT MOST 1048576: true; the input reads as it did. -/
def fnExactNextOfClassUptoRow : OpenClaim := { program := "ytdbbjmcfpfalhaa", sum := "c9f6c0cf2ff7c8ff0551e54b9e9199395318085b06a41eba8c3e8bee0c8b6008", func := "loop.example/g01007/laws.FnExactNextOfClass", spec := "fnExactNextOfClass", inPlace := ["math.sqrt"], plainKeys := false, apart := false, narrowed := true }
def FnExactNextOfClassUptoSaid : Prop := fnExactNextOfClassUptoRow.holds Try.pinned (OpenSpec.upto fnExactNextOfClassSpec)

/-- 'laws.FnExactLeastSolution', WHERE WHAT IT READS IS OF BULK AT MOST 1048576: true; the input reads as it did. -/
def fnExactLeastSolutionUptoRow : OpenClaim := { program := "ytdbbjmcfpfalhaa", sum := "c9f6c0cf2ff7c8ff0551e54b9e9199395318085b06a41eba8c3e8bee0c8b6008", func := "loop.example/g01007/laws.FnExactLeastSolution", spec := "fnExactLeastSolution", inPlace := ["math.sqrt"], plainKeys := false, apart := false, narrowed := true }
def FnExactLeastSolutionUptoSaid : Prop := fnExactLeastSolutionUptoRow.holds Try.pinned (OpenSpec.upto fnExactLeastSolutionSpec)

/-- 'laws.FnExactClassOf', WHERE WHAT IT READS IS OF BULK AT MOST 1048576: true; the input reads as it did. -/
def fnExactClassOfUptoRow : OpenClaim := { program := "ytdbbjmcfpfalhaa", sum := "c9f6c0cf2ff7c8ff0551e54b9e9199395318085b06a41eba8c3e8bee0c8b6008", func := "loop.example/g01007/laws.FnExactClassOf", spec := "fnExactClassOf", inPlace := ["math.sqrt"], plainKeys := false, apart := false, narrowed := true }
def FnExactClassOfUptoSaid : Prop := fnExactClassOfUptoRow.holds Try.pinned (OpenSpec.upto fnExactClassOfSpec)

/-- 'laws.FnExactClassSolutions', WHERE WHAT IT READS IS OF BULK AT MOST 1048576: true; the input reads as it did. -/
def fnExactClassSolutionsUptoRow : OpenClaim := { program := "ytdbbjmcfpfalhaa", sum := "c9f6c0cf2ff7c8ff0551e54b9e9199395318085b06a41eba8c3e8bee0c8b6008", func := "loop.example/g01007/laws.FnExactClassSolutions", spec := "fnExactClassSolutions", inPlace := ["math.sqrt"], plainKeys := false, apart := false, narrowed := true }
def FnExactClassSolutionsUptoSaid : Prop := fnExactClassSolutionsUptoRow.holds Try.pinned (OpenSpec.upto fnExactClassSolutionsSpec)

/-- 'laws.FnNormClasses', WHERE WHAT IT READS IS OF BULK AT MOST 1048576: true; the input reads as it did. -/
def fnNormClassesUptoRow : OpenClaim := { program := "ytdbbjmcfpfalhaa", sum := "c9f6c0cf2ff7c8ff0551e54b9e9199395318085b06a41eba8c3e8bee0c8b6008", func := "loop.example/g01007/laws.FnNormClasses", spec := "fnNormClasses", inPlace := ["math.sqrt"], plainKeys := false, apart := false, narrowed := true }
def FnNormClassesUptoSaid : Prop := fnNormClassesUptoRow.holds Try.pinned (OpenSpec.upto fnNormClassesSpec)

end Rows
end Go.Proofs.Ytdbbjmcfpfalhaa
