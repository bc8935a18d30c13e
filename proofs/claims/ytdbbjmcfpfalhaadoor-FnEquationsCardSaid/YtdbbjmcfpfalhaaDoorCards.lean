/-
  DERIVED. GIVEN WITH THE SEED: THE CARDS: each row of YtdbbjmcfpfalhaaDoorRows.lean that lists a variable, with what it lists TIED to the program's text (the seventh form; the later family's looks); each row that meets fmt, with fmt's text TOLD by the authors' own Lean function (tested against real Go, not proved from fmt's source: count such statements apart). THE CARD IS WHAT COUNTS. Prove the row's statement (the work); the ties are given (YtdbbjmcfpfalhaaDoorTie.lean); close each card by the builder's one call (the guide's Derived/Test/ToyasCard.lean, 'card_holds'). Laid BY PROGRAM, IN A SANDBOX (cutbox-door.mjs). By AI agents, Wed Nov 11 2026. No macro, syntax, notation, axiom, sorry.
-/
import Derived.Test.YtdbbjmcfpfalhaaDoorRows
import GoSem.ClaimSeven
namespace Go.Proofs.YtdbbjmcfpfalhaaDoor
namespace Rows

/-- THE TIED CARD OF 'laws.FnExactEquationText'. -/
def fnExactEquationTextCard : Claim7 := { stood := { row := fnExactEquationTextRow, standIns := [], harness := (true, "aeedd1b104dccc39b38e86a1d3586328a45e874e87309323e2c2255927906b7d"), looks := false }, kinds := [], alts := [], laidByText := true, laidKinds := [.data, .data, .data], laidTests := true, laidLooks := .later }
def FnExactEquationTextCardSaid : Prop := Claim7.holds Tryd.pinned (.plain (OpenSpec.ofChange fnExactEquationTextSpec)) fnExactEquationTextCard

/-- THE TIED CARD OF 'laws.FnEquations'. -/
def fnEquationsCard : Claim7 := { stood := { row := fnEquationsRow, standIns := [], harness := (true, "aeedd1b104dccc39b38e86a1d3586328a45e874e87309323e2c2255927906b7d"), looks := false }, kinds := [], alts := [], laidByText := true, laidKinds := [.data, .data, .data], laidTests := true, laidLooks := .later }
def FnEquationsCardSaid : Prop := Claim7.holds Tryd.pinned (.plain (OpenSpec.ofChange fnEquationsSpec)) fnEquationsCard

/-- THE SECOND FORM's CARD OF 'laws.FnExactEquationText'. -/
def fnExactEquationTextUptoCard : Claim7 := { stood := { row := fnExactEquationTextUptoRow, standIns := [], harness := (true, "aeedd1b104dccc39b38e86a1d3586328a45e874e87309323e2c2255927906b7d"), looks := false }, kinds := [], alts := [], laidByText := true, laidKinds := [.data, .data, .data], laidTests := true, laidLooks := .later }
def FnExactEquationTextUptoCardSaid : Prop := Claim7.holds Tryd.pinned (.plain (OpenSpec.upto fnExactEquationTextSpec)) fnExactEquationTextUptoCard

/-- THE SECOND FORM's CARD OF 'laws.FnEquations'. -/
def fnEquationsUptoCard : Claim7 := { stood := { row := fnEquationsUptoRow, standIns := [], harness := (true, "aeedd1b104dccc39b38e86a1d3586328a45e874e87309323e2c2255927906b7d"), looks := false }, kinds := [], alts := [], laidByText := true, laidKinds := [.data, .data, .data], laidTests := true, laidLooks := .later }
def FnEquationsUptoCardSaid : Prop := Claim7.holds Tryd.pinned (.plain (OpenSpec.upto fnEquationsSpec)) fnEquationsUptoCard
end Rows
end Go.Proofs.YtdbbjmcfpfalhaaDoor
