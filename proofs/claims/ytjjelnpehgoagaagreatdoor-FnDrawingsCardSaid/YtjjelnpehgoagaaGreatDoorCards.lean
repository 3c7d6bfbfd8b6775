/-
  DERIVED. GIVEN WITH THE SEED: THE CARDS: each row of YtjjelnpehgoagaaGreatDoorRows.lean that lists a variable, with what it lists TIED to the program's text (the seventh form; the later family's looks); each row that meets fmt, with fmt's text TOLD by the authors' own Lean function (tested against real Go, not proved from fmt's source: count such statements apart). THE CARD IS WHAT COUNTS. Prove the row's statement (the work); the ties are given (YtjjelnpehgoagaaGreatDoorTie.lean); close each card by the builder's one call (the guide's Derived/Test/ToyasCard.lean, 'card_holds'). Laid BY PROGRAM, IN A SANDBOX (cutbox-door.mjs). By AI agents, Wed Nov 11 2026. No macro, syntax, notation, axiom, sorry.
-/
import Derived.Test.YtjjelnpehgoagaaGreatDoorRows
import GoSem.ClaimSeven
namespace Go.Proofs.YtjjelnpehgoagaaGreatDoor
namespace Rows

/-- THE TIED CARD OF 'laws.FnExactReadDrawing'. -/
def fnExactReadDrawingCard : Claim7 := { stood := { row := fnExactReadDrawingRow, standIns := [], harness := (true, "410e979f994b32e6e3a7ee88c2bf968c20d16b6d44c7dfefce2da5a28c96968f"), looks := true }, kinds := [], alts := [], laidByText := true, laidKinds := [.data, .data, .data, .data, .sentinel, .sentinel, .pinned], laidTests := true, laidLooks := .later }
def FnExactReadDrawingCardSaid : Prop := Claim7.holds Tryz.pinned (.plain (OpenSpec.ofChange fnExactReadDrawingSpec)) fnExactReadDrawingCard

/-- THE TIED CARD OF 'laws.FnDrawings'. -/
def fnDrawingsCard : Claim7 := { stood := { row := fnDrawingsRow, standIns := [], harness := (true, "410e979f994b32e6e3a7ee88c2bf968c20d16b6d44c7dfefce2da5a28c96968f"), looks := true }, kinds := [], alts := [], laidByText := true, laidKinds := [.data, .data, .data, .data, .sentinel, .sentinel, .pinned], laidTests := true, laidLooks := .later }
def FnDrawingsCardSaid : Prop := Claim7.holds Tryz.pinned (.plain (OpenSpec.ofChange fnDrawingsSpec)) fnDrawingsCard

/-- THE SECOND FORM's CARD OF 'laws.FnExactReadDrawing'. -/
def fnExactReadDrawingUptoCard : Claim7 := { stood := { row := fnExactReadDrawingUptoRow, standIns := [], harness := (true, "410e979f994b32e6e3a7ee88c2bf968c20d16b6d44c7dfefce2da5a28c96968f"), looks := true }, kinds := [], alts := [], laidByText := true, laidKinds := [.data, .data, .data, .data, .sentinel, .sentinel, .pinned], laidTests := true, laidLooks := .later }
def FnExactReadDrawingUptoCardSaid : Prop := Claim7.holds Tryz.pinned (.plain (OpenSpec.upto fnExactReadDrawingSpec)) fnExactReadDrawingUptoCard

/-- THE SECOND FORM's CARD OF 'laws.FnDrawings'. -/
def fnDrawingsUptoCard : Claim7 := { stood := { row := fnDrawingsUptoRow, standIns := [], harness := (true, "410e979f994b32e6e3a7ee88c2bf968c20d16b6d44c7dfefce2da5a28c96968f"), looks := true }, kinds := [], alts := [], laidByText := true, laidKinds := [.data, .data, .data, .data, .sentinel, .sentinel, .pinned], laidTests := true, laidLooks := .later }
def FnDrawingsUptoCardSaid : Prop := Claim7.holds Tryz.pinned (.plain (OpenSpec.upto fnDrawingsSpec)) fnDrawingsUptoCard
end Rows
end Go.Proofs.YtjjelnpehgoagaaGreatDoor
