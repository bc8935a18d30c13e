/-
  No cell of these rows narrows 'for every input' (looked for: loops, veiled, ifaces, maps, wideKeys, modest, calm, conditions, laid).
  DERIVED. THE GIVEN ROWS OF THIS SEAT. 11 by the template 'for every input the law returns true; each argument reads behind the call as it read before'; 0 by the template 'total and deterministic' (their statements: YtolbihoeheogkaaTotals.lean).
  GIVEN WITH THE SEED: the statements are not yours to turn. If you find one false, say at which input.
  Laid BY PROGRAM, IN A SANDBOX (cutbox-rows.mjs): the forced cells as the released guide's own fill.sh prints them over the translation 1d825dffb544063c… (all of the seat's roots in one cut). By AI agents, Wed Nov 11 2026. No macro, syntax, notation, axiom, sorry.
-/
import Derived.Test.YtolbihoeheogkaaChecked
import GoSem.Claim
import GoSem.ClaimJoined
import GoSem.ClaimMapViews
import Derived.JoinedTies
import Derived.KernelRfl
namespace Go.Proofs.Ytolbihoeheogkaa
/- THE CELL 'sum', in the pinned program and in every row, IS THE sha256 OF THE DUMP (.gsa) THAT YtolbihoeheogkaaProg.lean LOADS. Nothing in Lean hashes anything: it is a label: what it is worth is what the hold of that sum in a sandbox is worth. -/
noncomputable def Try.pinned : Pinned := { name := "ytolbihoeheogkaa", sum := "1d825dffb544063cc031ed8e68584a59c2ba6e80109527531b4abd958342e0b5", checked := Try.checked }
namespace Rows
def none {H : Type} : Left H := { results := [], args := [] }

/-- 'laws.FnExactValidForm': WHATEVER THE INPUT: true; the input reads as it did. -/
def fnExactValidFormSpec : ChangeSpec := { name := "fnExactValidForm", fn := fun _ => fun
  | [d] => { results := [.lit (.bool true)], args := [d] }
  | _ => none }
def fnExactValidFormRow : OpenClaim := { program := "ytolbihoeheogkaa", sum := "1d825dffb544063cc031ed8e68584a59c2ba6e80109527531b4abd958342e0b5", func := "loop.example/g01007/laws.FnExactValidForm", spec := "fnExactValidForm", inPlace := ["math.sqrt"], plainKeys := false, apart := false }
def FnExactValidFormSaid : Prop := fnExactValidFormRow.holds Try.pinned (OpenSpec.ofChange fnExactValidFormSpec)

/-- ITS FALSE NEIGHBOUR: 'it returns false'. Refute it at one input. -/
def fnExactValidFormWrong : ChangeSpec := { name := "fnExactValidForm", fn := fun _ => fun
  | [d] => { results := [.lit (.bool false)], args := [d] }
  | _ => none }
def FnExactValidFormWrongFalsely : Prop := fnExactValidFormRow.holds Try.pinned (OpenSpec.ofChange fnExactValidFormWrong)

/-- 'laws.FnExactDiscriminant': WHATEVER THE INPUT: true; the input reads as it did. -/
def fnExactDiscriminantSpec : ChangeSpec := { name := "fnExactDiscriminant", fn := fun _ => fun
  | [d] => { results := [.lit (.bool true)], args := [d] }
  | _ => none }
def fnExactDiscriminantRow : OpenClaim := { program := "ytolbihoeheogkaa", sum := "1d825dffb544063cc031ed8e68584a59c2ba6e80109527531b4abd958342e0b5", func := "loop.example/g01007/laws.FnExactDiscriminant", spec := "fnExactDiscriminant", inPlace := ["math.sqrt"], plainKeys := false, apart := false }
def FnExactDiscriminantSaid : Prop := fnExactDiscriminantRow.holds Try.pinned (OpenSpec.ofChange fnExactDiscriminantSpec)

/-- ITS FALSE NEIGHBOUR: 'it returns false'. Refute it at one input. -/
def fnExactDiscriminantWrong : ChangeSpec := { name := "fnExactDiscriminant", fn := fun _ => fun
  | [d] => { results := [.lit (.bool false)], args := [d] }
  | _ => none }
def FnExactDiscriminantWrongFalsely : Prop := fnExactDiscriminantRow.holds Try.pinned (OpenSpec.ofChange fnExactDiscriminantWrong)

/-- 'laws.FnExactFormAt': WHATEVER THE INPUT: true; the input reads as it did. -/
def fnExactFormAtSpec : ChangeSpec := { name := "fnExactFormAt", fn := fun _ => fun
  | [d1, d2, d3] => { results := [.lit (.bool true)], args := [d1, d2, d3] }
  | _ => none }
def fnExactFormAtRow : OpenClaim := { program := "ytolbihoeheogkaa", sum := "1d825dffb544063cc031ed8e68584a59c2ba6e80109527531b4abd958342e0b5", func := "loop.example/g01007/laws.FnExactFormAt", spec := "fnExactFormAt", inPlace := ["math.sqrt"], plainKeys := false, apart := false }
def FnExactFormAtSaid : Prop := fnExactFormAtRow.holds Try.pinned (OpenSpec.ofChange fnExactFormAtSpec)

/-- ITS FALSE NEIGHBOUR: 'it returns false'. Refute it at one input. -/
def fnExactFormAtWrong : ChangeSpec := { name := "fnExactFormAt", fn := fun _ => fun
  | [d1, d2, d3] => { results := [.lit (.bool false)], args := [d1, d2, d3] }
  | _ => none }
def FnExactFormAtWrongFalsely : Prop := fnExactFormAtRow.holds Try.pinned (OpenSpec.ofChange fnExactFormAtWrong)

/-- 'laws.FnExactIsReducedForm': WHATEVER THE INPUT: true; the input reads as it did. -/
def fnExactIsReducedFormSpec : ChangeSpec := { name := "fnExactIsReducedForm", fn := fun _ => fun
  | [d] => { results := [.lit (.bool true)], args := [d] }
  | _ => none }
def fnExactIsReducedFormRow : OpenClaim := { program := "ytolbihoeheogkaa", sum := "1d825dffb544063cc031ed8e68584a59c2ba6e80109527531b4abd958342e0b5", func := "loop.example/g01007/laws.FnExactIsReducedForm", spec := "fnExactIsReducedForm", inPlace := ["math.sqrt"], plainKeys := false, apart := false }
def FnExactIsReducedFormSaid : Prop := fnExactIsReducedFormRow.holds Try.pinned (OpenSpec.ofChange fnExactIsReducedFormSpec)

/-- ITS FALSE NEIGHBOUR: 'it returns false'. Refute it at one input. -/
def fnExactIsReducedFormWrong : ChangeSpec := { name := "fnExactIsReducedForm", fn := fun _ => fun
  | [d] => { results := [.lit (.bool false)], args := [d] }
  | _ => none }
def FnExactIsReducedFormWrongFalsely : Prop := fnExactIsReducedFormRow.holds Try.pinned (OpenSpec.ofChange fnExactIsReducedFormWrong)

/-- 'laws.FnExactStepForm': WHATEVER THE INPUT: true; the input reads as it did. -/
def fnExactStepFormSpec : ChangeSpec := { name := "fnExactStepForm", fn := fun _ => fun
  | [d] => { results := [.lit (.bool true)], args := [d] }
  | _ => none }
def fnExactStepFormRow : OpenClaim := { program := "ytolbihoeheogkaa", sum := "1d825dffb544063cc031ed8e68584a59c2ba6e80109527531b4abd958342e0b5", func := "loop.example/g01007/laws.FnExactStepForm", spec := "fnExactStepForm", inPlace := ["math.sqrt"], plainKeys := false, apart := false }
def FnExactStepFormSaid : Prop := fnExactStepFormRow.holds Try.pinned (OpenSpec.ofChange fnExactStepFormSpec)

/-- ITS FALSE NEIGHBOUR: 'it returns false'. Refute it at one input. -/
def fnExactStepFormWrong : ChangeSpec := { name := "fnExactStepForm", fn := fun _ => fun
  | [d] => { results := [.lit (.bool false)], args := [d] }
  | _ => none }
def FnExactStepFormWrongFalsely : Prop := fnExactStepFormRow.holds Try.pinned (OpenSpec.ofChange fnExactStepFormWrong)

/-- 'laws.FnExactReduceForm': WHATEVER THE INPUT: true; the input reads as it did. -/
def fnExactReduceFormSpec : ChangeSpec := { name := "fnExactReduceForm", fn := fun _ => fun
  | [d] => { results := [.lit (.bool true)], args := [d] }
  | _ => none }
def fnExactReduceFormRow : OpenClaim := { program := "ytolbihoeheogkaa", sum := "1d825dffb544063cc031ed8e68584a59c2ba6e80109527531b4abd958342e0b5", func := "loop.example/g01007/laws.FnExactReduceForm", spec := "fnExactReduceForm", inPlace := ["math.sqrt"], plainKeys := false, apart := false }
def FnExactReduceFormSaid : Prop := fnExactReduceFormRow.holds Try.pinned (OpenSpec.ofChange fnExactReduceFormSpec)

/-- ITS FALSE NEIGHBOUR: 'it returns false'. Refute it at one input. -/
def fnExactReduceFormWrong : ChangeSpec := { name := "fnExactReduceForm", fn := fun _ => fun
  | [d] => { results := [.lit (.bool false)], args := [d] }
  | _ => none }
def FnExactReduceFormWrongFalsely : Prop := fnExactReduceFormRow.holds Try.pinned (OpenSpec.ofChange fnExactReduceFormWrong)

/-- 'laws.FnExactReducedForms': WHATEVER THE INPUT: true; the input reads as it did. -/
def fnExactReducedFormsSpec : ChangeSpec := { name := "fnExactReducedForms", fn := fun _ => fun
  | [d] => { results := [.lit (.bool true)], args := [d] }
  | _ => none }
def fnExactReducedFormsRow : OpenClaim := { program := "ytolbihoeheogkaa", sum := "1d825dffb544063cc031ed8e68584a59c2ba6e80109527531b4abd958342e0b5", func := "loop.example/g01007/laws.FnExactReducedForms", spec := "fnExactReducedForms", inPlace := ["math.sqrt"], plainKeys := false, apart := false }
def FnExactReducedFormsSaid : Prop := fnExactReducedFormsRow.holds Try.pinned (OpenSpec.ofChange fnExactReducedFormsSpec)

/-- ITS FALSE NEIGHBOUR: 'it returns false'. Refute it at one input. -/
def fnExactReducedFormsWrong : ChangeSpec := { name := "fnExactReducedForms", fn := fun _ => fun
  | [d] => { results := [.lit (.bool false)], args := [d] }
  | _ => none }
def FnExactReducedFormsWrongFalsely : Prop := fnExactReducedFormsRow.holds Try.pinned (OpenSpec.ofChange fnExactReducedFormsWrong)

/-- 'laws.FnExactFormCycle': WHATEVER THE INPUT: true; the input reads as it did. -/
def fnExactFormCycleSpec : ChangeSpec := { name := "fnExactFormCycle", fn := fun _ => fun
  | [d] => { results := [.lit (.bool true)], args := [d] }
  | _ => none }
def fnExactFormCycleRow : OpenClaim := { program := "ytolbihoeheogkaa", sum := "1d825dffb544063cc031ed8e68584a59c2ba6e80109527531b4abd958342e0b5", func := "loop.example/g01007/laws.FnExactFormCycle", spec := "fnExactFormCycle", inPlace := ["math.sqrt"], plainKeys := false, apart := false }
def FnExactFormCycleSaid : Prop := fnExactFormCycleRow.holds Try.pinned (OpenSpec.ofChange fnExactFormCycleSpec)

/-- ITS FALSE NEIGHBOUR: 'it returns false'. Refute it at one input. -/
def fnExactFormCycleWrong : ChangeSpec := { name := "fnExactFormCycle", fn := fun _ => fun
  | [d] => { results := [.lit (.bool false)], args := [d] }
  | _ => none }
def FnExactFormCycleWrongFalsely : Prop := fnExactFormCycleRow.holds Try.pinned (OpenSpec.ofChange fnExactFormCycleWrong)

/-- 'laws.FnExactEquivalentForms': WHATEVER THE INPUT: true; the input reads as it did. -/
def fnExactEquivalentFormsSpec : ChangeSpec := { name := "fnExactEquivalentForms", fn := fun _ => fun
  | [d1, d2] => { results := [.lit (.bool true)], args := [d1, d2] }
  | _ => none }
def fnExactEquivalentFormsRow : OpenClaim := { program := "ytolbihoeheogkaa", sum := "1d825dffb544063cc031ed8e68584a59c2ba6e80109527531b4abd958342e0b5", func := "loop.example/g01007/laws.FnExactEquivalentForms", spec := "fnExactEquivalentForms", inPlace := ["math.sqrt"], plainKeys := false, apart := false }
def FnExactEquivalentFormsSaid : Prop := fnExactEquivalentFormsRow.holds Try.pinned (OpenSpec.ofChange fnExactEquivalentFormsSpec)

/-- ITS FALSE NEIGHBOUR: 'it returns false'. Refute it at one input. -/
def fnExactEquivalentFormsWrong : ChangeSpec := { name := "fnExactEquivalentForms", fn := fun _ => fun
  | [d1, d2] => { results := [.lit (.bool false)], args := [d1, d2] }
  | _ => none }
def FnExactEquivalentFormsWrongFalsely : Prop := fnExactEquivalentFormsRow.holds Try.pinned (OpenSpec.ofChange fnExactEquivalentFormsWrong)

/-- 'laws.FnExactClassNumber': WHATEVER THE INPUT: true; the input reads as it did. -/
def fnExactClassNumberSpec : ChangeSpec := { name := "fnExactClassNumber", fn := fun _ => fun
  | [d] => { results := [.lit (.bool true)], args := [d] }
  | _ => none }
def fnExactClassNumberRow : OpenClaim := { program := "ytolbihoeheogkaa", sum := "1d825dffb544063cc031ed8e68584a59c2ba6e80109527531b4abd958342e0b5", func := "loop.example/g01007/laws.FnExactClassNumber", spec := "fnExactClassNumber", inPlace := ["math.sqrt"], plainKeys := false, apart := false }
def FnExactClassNumberSaid : Prop := fnExactClassNumberRow.holds Try.pinned (OpenSpec.ofChange fnExactClassNumberSpec)

/-- ITS FALSE NEIGHBOUR: 'it returns false'. Refute it at one input. -/
def fnExactClassNumberWrong : ChangeSpec := { name := "fnExactClassNumber", fn := fun _ => fun
  | [d] => { results := [.lit (.bool false)], args := [d] }
  | _ => none }
def FnExactClassNumberWrongFalsely : Prop := fnExactClassNumberRow.holds Try.pinned (OpenSpec.ofChange fnExactClassNumberWrong)

/-- 'laws.FnForms': WHATEVER THE INPUT: true; the input reads as it did. -/
def fnFormsSpec : ChangeSpec := { name := "fnForms", fn := fun _ => fun
  | [d1, d2] => { results := [.lit (.bool true)], args := [d1, d2] }
  | _ => none }
def fnFormsRow : OpenClaim := { program := "ytolbihoeheogkaa", sum := "1d825dffb544063cc031ed8e68584a59c2ba6e80109527531b4abd958342e0b5", func := "loop.example/g01007/laws.FnForms", spec := "fnForms", inPlace := ["math.sqrt"], plainKeys := false, apart := false }
def FnFormsSaid : Prop := fnFormsRow.holds Try.pinned (OpenSpec.ofChange fnFormsSpec)

/-- ITS FALSE NEIGHBOUR: 'it returns false'. Refute it at one input. -/
def fnFormsWrong : ChangeSpec := { name := "fnForms", fn := fun _ => fun
  | [d1, d2] => { results := [.lit (.bool false)], args := [d1, d2] }
  | _ => none }
def FnFormsWrongFalsely : Prop := fnFormsRow.holds Try.pinned (OpenSpec.ofChange fnFormsWrong)

/- THE SECOND FORM. 'bulk': how many values and letters a reading holds, each counted each time it is reached (what is shared counts as often as it is met; a slice's spare places count too). A statement '..UptoSaid' is the law's where the arguments, and the package variables that the reading takes, are together of bulk at most 1048576: NARROWER than '..Said'. Prove '..Said' where nothing that the law and all that it calls make is longer than what came in: it says more and counts as full. Else prove '..UptoSaid'. A law counts once. -/
mutual
def uptoBulk {H : Type} : DataW H → Nat
  | .lit (.string bytes) => bytes.length + 1
  | .lit _ => 1
  | .nil => 1
  | .ptr d => uptoBulk d + 1
  | .slice elems spare => uptoBulkAll elems + uptoBulkAll spare + 1
  | .agg parts => uptoBulkAll parts + 1
  | .iface _ d => uptoBulk d + 1
  | .map entries => uptoBulkEntries entries + 1
  | .held _ => 1
def uptoBulkAll {H : Type} : List (DataW H) → Nat
  | [] => 0
  | d :: r => uptoBulk d + uptoBulkAll r
def uptoBulkEntries {H : Type} : List (Lit × DataW H) → Nat
  | [] => 0
  | x :: r => uptoBulkEntry x + uptoBulkEntries r
def uptoBulkEntry {H : Type} : Lit × DataW H → Nat
  | (.string bytes, d) => bytes.length + uptoBulk d + 1
  | (_, d) => uptoBulk d + 1
 end
def uptoSmall : (H : Type) → List (DataW H) → Bool := fun _ ds => decide (uptoBulkAll ds ≤ 1048576)
def OpenSpec.upto (s : _root_.Go.ChangeSpec) : _root_.Go.OpenSpec := { _root_.Go.OpenSpec.ofChange s with cond := some uptoSmall }

/-- 'laws.FnExactValidForm', WHERE WHAT IT READS IS OF BULK AT MOST 1048576: true; the input reads as it did. -/
def fnExactValidFormUptoRow : OpenClaim := { program := "ytolbihoeheogkaa", sum := "1d825dffb544063cc031ed8e68584a59c2ba6e80109527531b4abd958342e0b5", func := "loop.example/g01007/laws.FnExactValidForm", spec := "fnExactValidForm", inPlace := ["math.sqrt"], plainKeys := false, apart := false, narrowed := true }
def FnExactValidFormUptoSaid : Prop := fnExactValidFormUptoRow.holds Try.pinned (OpenSpec.upto fnExactValidFormSpec)

/-- 'laws.FnExactDiscriminant', WHERE WHAT IT READS IS OF BULK AT MOST 1048576: true; the input reads as it did. -/
def fnExactDiscriminantUptoRow : OpenClaim := { program := "ytolbihoeheogkaa", sum := "1d825dffb544063cc031ed8e68584a59c2ba6e80109527531b4abd958342e0b5", func := "loop.example/g01007/laws.FnExactDiscriminant", spec := "fnExactDiscriminant", inPlace := ["math.sqrt"], plainKeys := false, apart := false, narrowed := true }
def FnExactDiscriminantUptoSaid : Prop := fnExactDiscriminantUptoRow.holds Try.pinned (OpenSpec.upto fnExactDiscriminantSpec)

/-- 'laws.FnExactFormAt', WHERE WHAT IT READS IS OF BULK AT MOST 1048576: true; the input reads as it did. -/
def fnExactFormAtUptoRow : OpenClaim := { program := "ytolbihoeheogkaa", sum := "1d825dffb544063cc031ed8e68584a59c2ba6e80109527531b4abd958342e0b5", func := "loop.example/g01007/laws.FnExactFormAt", spec := "fnExactFormAt", inPlace := ["math.sqrt"], plainKeys := false, apart := false, narrowed := true }
def FnExactFormAtUptoSaid : Prop := fnExactFormAtUptoRow.holds Try.pinned (OpenSpec.upto fnExactFormAtSpec)

/-- 'laws.FnExactIsReducedForm', WHERE WHAT IT READS IS OF BULK AT MOST 1048576: true; the input reads as it did. -/
def fnExactIsReducedFormUptoRow : OpenClaim := { program := "ytolbihoeheogkaa", sum := "1d825dffb544063cc031ed8e68584a59c2ba6e80109527531b4abd958342e0b5", func := "loop.example/g01007/laws.FnExactIsReducedForm", spec := "fnExactIsReducedForm", inPlace := ["math.sqrt"], plainKeys := false, apart := false, narrowed := true }
def FnExactIsReducedFormUptoSaid : Prop := fnExactIsReducedFormUptoRow.holds Try.pinned (OpenSpec.upto fnExactIsReducedFormSpec)

/-- 'laws.FnExactStepForm', WHERE WHAT IT READS IS OF BULK AT MOST 1048576: true; the input reads as it did. -/
def fnExactStepFormUptoRow : OpenClaim := { program := "ytolbihoeheogkaa", sum := "1d825dffb544063cc031ed8e68584a59c2ba6e80109527531b4abd958342e0b5", func := "loop.example/g01007/laws.FnExactStepForm", spec := "fnExactStepForm", inPlace := ["math.sqrt"], plainKeys := false, apart := false, narrowed := true }
def FnExactStepFormUptoSaid : Prop := fnExactStepFormUptoRow.holds Try.pinned (OpenSpec.upto fnExactStepFormSpec)

/-- 'laws.FnExactReduceForm', WHERE WHAT IT READS IS OF BULK AT MOST 1048576: true; the input reads as it did. -/
def fnExactReduceFormUptoRow : OpenClaim := { program := "ytolbihoeheogkaa", sum := "1d825dffb544063cc031ed8e68584a59c2ba6e80109527531b4abd958342e0b5", func := "loop.example/g01007/laws.FnExactReduceForm", spec := "fnExactReduceForm", inPlace := ["math.sqrt"], plainKeys := false, apart := false, narrowed := true }
def FnExactReduceFormUptoSaid : Prop := fnExactReduceFormUptoRow.holds Try.pinned (OpenSpec.upto fnExactReduceFormSpec)

/-- 'laws.FnExactReducedForms', WHERE WHAT IT READS IS OF BULK AT MOST 1048576: true; the input reads as it did. -/
def fnExactReducedFormsUptoRow : OpenClaim := { program := "ytolbihoeheogkaa", sum := "1d825dffb544063cc031ed8e68584a59c2ba6e80109527531b4abd958342e0b5", func := "loop.example/g01007/laws.FnExactReducedForms", spec := "fnExactReducedForms", inPlace := ["math.sqrt"], plainKeys := false, apart := false, narrowed := true }
def FnExactReducedFormsUptoSaid : Prop := fnExactReducedFormsUptoRow.holds Try.pinned (OpenSpec.upto fnExactReducedFormsSpec)

/-- 'laws.FnExactFormCycle', WHERE WHAT IT READS IS OF BULK AT MOST 1048576: true; the input reads as it did. -/
def fnExactFormCycleUptoRow : OpenClaim := { program := "ytolbihoeheogkaa", sum := "1d825dffb544063cc031ed8e68584a59c2ba6e80109527531b4abd958342e0b5", func := "loop.example/g01007/laws.FnExactFormCycle", spec := "fnExactFormCycle", inPlace := ["math.sqrt"], plainKeys := false, apart := false, narrowed := true }
def FnExactFormCycleUptoSaid : Prop := fnExactFormCycleUptoRow.holds Try.pinned (OpenSpec.upto fnExactFormCycleSpec)

/-- 'laws.FnExactEquivalentForms', WHERE WHAT IT READS IS OF BULK AT MOST 1048576: true; the input reads as it did. -/
def fnExactEquivalentFormsUptoRow : OpenClaim := { program := "ytolbihoeheogkaa", sum := "1d825dffb544063cc031ed8e68584a59c2ba6e80109527531b4abd958342e0b5", func := "loop.example/g01007/laws.FnExactEquivalentForms", spec := "fnExactEquivalentForms", inPlace := ["math.sqrt"], plainKeys := false, apart := false, narrowed := true }
def FnExactEquivalentFormsUptoSaid : Prop := fnExactEquivalentFormsUptoRow.holds Try.pinned (OpenSpec.upto fnExactEquivalentFormsSpec)

/-- 'laws.FnExactClassNumber', WHERE WHAT IT READS IS OF BULK AT MOST 1048576: true; the input reads as it did. -/
def fnExactClassNumberUptoRow : OpenClaim := { program := "ytolbihoeheogkaa", sum := "1d825dffb544063cc031ed8e68584a59c2ba6e80109527531b4abd958342e0b5", func := "loop.example/g01007/laws.FnExactClassNumber", spec := "fnExactClassNumber", inPlace := ["math.sqrt"], plainKeys := false, apart := false, narrowed := true }
def FnExactClassNumberUptoSaid : Prop := fnExactClassNumberUptoRow.holds Try.pinned (OpenSpec.upto fnExactClassNumberSpec)

/-- 'laws.FnForms', WHERE WHAT IT READS IS OF BULK AT MOST 1048576: true; the input reads as it did. -/
def fnFormsUptoRow : OpenClaim := { program := "ytolbihoeheogkaa", sum := "1d825dffb544063cc031ed8e68584a59c2ba6e80109527531b4abd958342e0b5", func := "loop.example/g01007/laws.FnForms", spec := "fnForms", inPlace := ["math.sqrt"], plainKeys := false, apart := false, narrowed := true }
def FnFormsUptoSaid : Prop := fnFormsUptoRow.holds Try.pinned (OpenSpec.upto fnFormsSpec)

end Rows
end Go.Proofs.Ytolbihoeheogkaa
