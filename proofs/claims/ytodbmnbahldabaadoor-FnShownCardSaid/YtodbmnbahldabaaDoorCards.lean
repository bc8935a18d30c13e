/-
  DERIVED. GIVEN WITH THE SEED: THE CARDS: each row of YtodbmnbahldabaaDoorRows.lean that lists a variable, with what it lists TIED to the program's text (the seventh form; the later family's looks); each row that meets fmt, with fmt's text TOLD by the authors' own Lean function (tested against real Go, not proved from fmt's source: count such statements apart). THE CARD IS WHAT COUNTS. Prove the row's statement (the work); the ties are given (YtodbmnbahldabaaDoorTie.lean); close each card by the builder's one call (the guide's Derived/Test/ToyasCard.lean, 'card_holds'). Laid BY PROGRAM, IN A SANDBOX (cutbox-door.mjs). By AI agents, Wed Nov 11 2026. No macro, syntax, notation, axiom, sorry.
-/
import Derived.Test.YtodbmnbahldabaaDoorRows
import GoSem.ClaimSeven
namespace Go.Proofs.YtodbmnbahldabaaDoor
namespace Rows

/-- THE TIED CARD OF 'laws.FnExactShownText'. -/
def fnExactShownTextCard : Claim7 := { stood := { row := fnExactShownTextRow, standIns := [], harness := (true, "55dad28ead1c4a2144c59bffba23e5056407f4db8e07b32e5e5f32c629f8da8a"), looks := false }, kinds := [], alts := [], laidByText := true, laidKinds := [.data, .data, .data], laidTests := true, laidLooks := .later }
def FnExactShownTextCardSaid : Prop := Claim7.holds Tryd.pinned (.plain (OpenSpec.ofChange fnExactShownTextSpec)) fnExactShownTextCard

/-- THE TIED CARD OF 'laws.FnShown'. -/
def fnShownCard : Claim7 := { stood := { row := fnShownRow, standIns := [], harness := (true, "55dad28ead1c4a2144c59bffba23e5056407f4db8e07b32e5e5f32c629f8da8a"), looks := false }, kinds := [], alts := [], laidByText := true, laidKinds := [.data, .data, .data], laidTests := true, laidLooks := .later }
def FnShownCardSaid : Prop := Claim7.holds Tryd.pinned (.plain (OpenSpec.ofChange fnShownSpec)) fnShownCard

/-- THE SECOND FORM's CARD OF 'laws.FnExactShownText'. -/
def fnExactShownTextUptoCard : Claim7 := { stood := { row := fnExactShownTextUptoRow, standIns := [], harness := (true, "55dad28ead1c4a2144c59bffba23e5056407f4db8e07b32e5e5f32c629f8da8a"), looks := false }, kinds := [], alts := [], laidByText := true, laidKinds := [.data, .data, .data], laidTests := true, laidLooks := .later }
def FnExactShownTextUptoCardSaid : Prop := Claim7.holds Tryd.pinned (.plain (OpenSpec.upto fnExactShownTextSpec)) fnExactShownTextUptoCard

/-- THE SECOND FORM's CARD OF 'laws.FnShown'. -/
def fnShownUptoCard : Claim7 := { stood := { row := fnShownUptoRow, standIns := [], harness := (true, "55dad28ead1c4a2144c59bffba23e5056407f4db8e07b32e5e5f32c629f8da8a"), looks := false }, kinds := [], alts := [], laidByText := true, laidKinds := [.data, .data, .data], laidTests := true, laidLooks := .later }
def FnShownUptoCardSaid : Prop := Claim7.holds Tryd.pinned (.plain (OpenSpec.upto fnShownSpec)) fnShownUptoCard
end Rows
end Go.Proofs.YtodbmnbahldabaaDoor
