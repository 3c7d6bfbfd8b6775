/-
  DERIVED. GIVEN WITH THE SEED: THE CARDS: each row of YtjhadibjjldpdaaDoorRows.lean that lists a variable, with what it lists TIED to the program's text (the seventh form; the later family's looks); each row that meets fmt, with fmt's text TOLD by the authors' own Lean function (tested against real Go, not proved from fmt's source: count such statements apart). THE CARD IS WHAT COUNTS. Prove the row's statement (the work); the ties are given (YtjhadibjjldpdaaDoorTie.lean); close each card by the builder's one call (the guide's Derived/Test/ToyasCard.lean, 'card_holds'). Laid BY PROGRAM, IN A SANDBOX (cutbox-door.mjs). By AI agents, Wed Nov 11 2026. No macro, syntax, notation, axiom, sorry.
-/
import Derived.Test.YtjhadibjjldpdaaDoorRows
import GoSem.ClaimSeven
namespace Go.Proofs.YtjhadibjjldpdaaDoor
namespace Rows

/-- THE TIED CARD OF 'laws.FnExactReadIndex'. -/
def fnExactReadIndexCard : Claim7 := { stood := { row := fnExactReadIndexRow, standIns := [], harness := (true, "3bc3411da2ea5c55e027e250c07b4e4e0b9c16c5183f48eebbdd72882cf30b24"), looks := true }, kinds := [], alts := [], laidByText := true, laidKinds := [.data, .data, .data, .sentinel, .sentinel], laidTests := true, laidLooks := .later }
def FnExactReadIndexCardSaid : Prop := Claim7.holds Tryd.pinned (.plain (OpenSpec.ofChange fnExactReadIndexSpec)) fnExactReadIndexCard

/-- THE TIED CARD OF 'laws.FnMotions'. -/
def fnMotionsCard : Claim7 := { stood := { row := fnMotionsRow, standIns := [], harness := (true, "3bc3411da2ea5c55e027e250c07b4e4e0b9c16c5183f48eebbdd72882cf30b24"), looks := true }, kinds := [], alts := [], laidByText := true, laidKinds := [.data, .data, .data, .sentinel, .sentinel], laidTests := true, laidLooks := .later }
def FnMotionsCardSaid : Prop := Claim7.holds Tryd.pinned (.plain (OpenSpec.ofChange fnMotionsSpec)) fnMotionsCard

/-- THE TIED CARD OF 'laws.FnIndexes'. -/
def fnIndexesCard : Claim7 := { stood := { row := fnIndexesRow, standIns := [], harness := (true, "3bc3411da2ea5c55e027e250c07b4e4e0b9c16c5183f48eebbdd72882cf30b24"), looks := true }, kinds := [], alts := [], laidByText := true, laidKinds := [.data, .data, .data, .sentinel, .sentinel], laidTests := true, laidLooks := .later }
def FnIndexesCardSaid : Prop := Claim7.holds Tryd.pinned (.plain (OpenSpec.ofChange fnIndexesSpec)) fnIndexesCard

/-- THE SECOND FORM's CARD OF 'laws.FnExactReadIndex'. -/
def fnExactReadIndexUptoCard : Claim7 := { stood := { row := fnExactReadIndexUptoRow, standIns := [], harness := (true, "3bc3411da2ea5c55e027e250c07b4e4e0b9c16c5183f48eebbdd72882cf30b24"), looks := true }, kinds := [], alts := [], laidByText := true, laidKinds := [.data, .data, .data, .sentinel, .sentinel], laidTests := true, laidLooks := .later }
def FnExactReadIndexUptoCardSaid : Prop := Claim7.holds Tryd.pinned (.plain (OpenSpec.upto fnExactReadIndexSpec)) fnExactReadIndexUptoCard

/-- THE SECOND FORM's CARD OF 'laws.FnMotions'. -/
def fnMotionsUptoCard : Claim7 := { stood := { row := fnMotionsUptoRow, standIns := [], harness := (true, "3bc3411da2ea5c55e027e250c07b4e4e0b9c16c5183f48eebbdd72882cf30b24"), looks := true }, kinds := [], alts := [], laidByText := true, laidKinds := [.data, .data, .data, .sentinel, .sentinel], laidTests := true, laidLooks := .later }
def FnMotionsUptoCardSaid : Prop := Claim7.holds Tryd.pinned (.plain (OpenSpec.upto fnMotionsSpec)) fnMotionsUptoCard

/-- THE SECOND FORM's CARD OF 'laws.FnIndexes'. -/
def fnIndexesUptoCard : Claim7 := { stood := { row := fnIndexesUptoRow, standIns := [], harness := (true, "3bc3411da2ea5c55e027e250c07b4e4e0b9c16c5183f48eebbdd72882cf30b24"), looks := true }, kinds := [], alts := [], laidByText := true, laidKinds := [.data, .data, .data, .sentinel, .sentinel], laidTests := true, laidLooks := .later }
def FnIndexesUptoCardSaid : Prop := Claim7.holds Tryd.pinned (.plain (OpenSpec.upto fnIndexesSpec)) fnIndexesUptoCard
end Rows
end Go.Proofs.YtjhadibjjldpdaaDoor
