/-
  DERIVED. GIVEN WITH THE SEED: THE CARDS: each row of YtjjelnpehgoagaaDoorRows.lean that lists a variable, with what it lists TIED to the program's text (the seventh form; the later family's looks); each row that meets fmt, with fmt's text TOLD by the authors' own Lean function (tested against real Go, not proved from fmt's source: count such statements apart). THE CARD IS WHAT COUNTS. Prove the row's statement (the work); the ties are given (YtjjelnpehgoagaaDoorTie.lean); close each card by the builder's one call (the guide's Derived/Test/ToyasCard.lean, 'card_holds'). Laid BY PROGRAM, IN A SANDBOX (cutbox-door.mjs). By AI agents, Wed Nov 11 2026. No macro, syntax, notation, axiom, sorry.
-/
import Derived.Test.YtjjelnpehgoagaaDoorRows
import GoSem.ClaimSeven
namespace Go.Proofs.YtjjelnpehgoagaaDoor
namespace Rows

/-- THE TIED CARD OF 'laws.FnExactDrawingText'. -/
def fnExactDrawingTextCard : Claim7 := { stood := { row := fnExactDrawingTextRow, standIns := [], harness := (true, "8211f0162705d0d28da1c4dab0672e6a258579f6c278844bc5d6fff4d232b14e"), looks := false }, kinds := [], alts := [], laidByText := true, laidKinds := [.data, .data, .data], laidTests := true, laidLooks := .later }
def FnExactDrawingTextCardSaid : Prop := Claim7.holds Tryd.pinned (.plain (OpenSpec.ofChange fnExactDrawingTextSpec)) fnExactDrawingTextCard

/-- THE SECOND FORM's CARD OF 'laws.FnExactDrawingText'. -/
def fnExactDrawingTextUptoCard : Claim7 := { stood := { row := fnExactDrawingTextUptoRow, standIns := [], harness := (true, "8211f0162705d0d28da1c4dab0672e6a258579f6c278844bc5d6fff4d232b14e"), looks := false }, kinds := [], alts := [], laidByText := true, laidKinds := [.data, .data, .data], laidTests := true, laidLooks := .later }
def FnExactDrawingTextUptoCardSaid : Prop := Claim7.holds Tryd.pinned (.plain (OpenSpec.upto fnExactDrawingTextSpec)) fnExactDrawingTextUptoCard
end Rows
end Go.Proofs.YtjjelnpehgoagaaDoor
