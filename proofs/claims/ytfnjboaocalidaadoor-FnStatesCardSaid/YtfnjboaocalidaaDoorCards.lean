/-
  DERIVED. GIVEN WITH THE SEED: THE CARDS: each row of YtfnjboaocalidaaDoorRows.lean that lists a variable, with what it lists TIED to the program's text (the seventh form; the later family's looks); each row that meets fmt, with fmt's text TOLD by the authors' own Lean function (tested against real Go, not proved from fmt's source: count such statements apart). THE CARD IS WHAT COUNTS. Prove the row's statement (the work); the ties are given (YtfnjboaocalidaaDoorTie.lean); close each card by the builder's one call (the guide's Derived/Test/ToyasCard.lean, 'card_holds'). Laid BY PROGRAM, IN A SANDBOX (cutbox-door.mjs). By AI agents, Wed Nov 11 2026. No macro, syntax, notation, axiom, sorry.
-/
import Derived.Test.YtfnjboaocalidaaDoorRows
import GoSem.ClaimSeven
namespace Go.Proofs.YtfnjboaocalidaaDoor
namespace Rows

/-- THE TIED CARD OF 'laws.FnExactStateText'. -/
def fnExactStateTextCard : Claim7 := { stood := { row := fnExactStateTextRow, standIns := [], harness := (true, "ff0f93f33b86b10db063f02a708decf356ecc8d757e15830f0bb7f4f47e6f72a"), looks := false }, kinds := [], alts := [], laidByText := true, laidKinds := [.data, .data, .data], laidTests := true, laidLooks := .later }
def FnExactStateTextCardSaid : Prop := Claim7.holds Tryd.pinned (.plain (OpenSpec.ofChange fnExactStateTextSpec)) fnExactStateTextCard

/-- THE TIED CARD OF 'laws.FnStates'. -/
def fnStatesCard : Claim7 := { stood := { row := fnStatesRow, standIns := [], harness := (true, "ff0f93f33b86b10db063f02a708decf356ecc8d757e15830f0bb7f4f47e6f72a"), looks := false }, kinds := [], alts := [], laidByText := true, laidKinds := [.data, .data, .data], laidTests := true, laidLooks := .later }
def FnStatesCardSaid : Prop := Claim7.holds Tryd.pinned (.plain (OpenSpec.ofChange fnStatesSpec)) fnStatesCard

/-- THE SECOND FORM's CARD OF 'laws.FnExactStateText'. -/
def fnExactStateTextUptoCard : Claim7 := { stood := { row := fnExactStateTextUptoRow, standIns := [], harness := (true, "ff0f93f33b86b10db063f02a708decf356ecc8d757e15830f0bb7f4f47e6f72a"), looks := false }, kinds := [], alts := [], laidByText := true, laidKinds := [.data, .data, .data], laidTests := true, laidLooks := .later }
def FnExactStateTextUptoCardSaid : Prop := Claim7.holds Tryd.pinned (.plain (OpenSpec.upto fnExactStateTextSpec)) fnExactStateTextUptoCard

/-- THE SECOND FORM's CARD OF 'laws.FnStates'. -/
def fnStatesUptoCard : Claim7 := { stood := { row := fnStatesUptoRow, standIns := [], harness := (true, "ff0f93f33b86b10db063f02a708decf356ecc8d757e15830f0bb7f4f47e6f72a"), looks := false }, kinds := [], alts := [], laidByText := true, laidKinds := [.data, .data, .data], laidTests := true, laidLooks := .later }
def FnStatesUptoCardSaid : Prop := Claim7.holds Tryd.pinned (.plain (OpenSpec.upto fnStatesSpec)) fnStatesUptoCard
end Rows
end Go.Proofs.YtfnjboaocalidaaDoor
