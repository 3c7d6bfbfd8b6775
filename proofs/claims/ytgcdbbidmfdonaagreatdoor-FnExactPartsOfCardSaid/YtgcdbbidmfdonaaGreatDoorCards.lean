/-
  DERIVED. GIVEN WITH THE SEED: THE CARDS: each row of YtgcdbbidmfdonaaGreatDoorRows.lean that lists a variable, with what it lists TIED to the program's text (the seventh form; the later family's looks); each row that meets fmt, with fmt's text TOLD by the authors' own Lean function (tested against real Go, not proved from fmt's source: count such statements apart). THE CARD IS WHAT COUNTS. Prove the row's statement (the work); the ties are given (YtgcdbbidmfdonaaGreatDoorTie.lean); close each card by the builder's one call (the guide's Derived/Test/ToyasCard.lean, 'card_holds'). Laid BY PROGRAM, IN A SANDBOX (cutbox-door.mjs). By AI agents, Wed Nov 11 2026. No macro, syntax, notation, axiom, sorry.
-/
import Derived.Test.YtgcdbbidmfdonaaGreatDoorRows
import GoSem.ClaimSeven
namespace Go.Proofs.YtgcdbbidmfdonaaGreatDoor
namespace Rows

/-- THE TIED CARD OF 'laws.FnExactPartsOf'. -/
def fnExactPartsOfCard : Claim7 := { stood := { row := fnExactPartsOfRow, standIns := [], harness := (true, "678274ba719d8b2a17a4881ce4d430d40ebff735bda3140aad25555a2391266c"), looks := false }, kinds := [], alts := [], laidByText := true, laidKinds := [.data, .data, .data], laidTests := true, laidLooks := .later }
def FnExactPartsOfCardSaid : Prop := Claim7.holds Tryz.pinned (.plain (OpenSpec.ofChange fnExactPartsOfSpec)) fnExactPartsOfCard

/-- THE SECOND FORM's CARD OF 'laws.FnExactPartsOf'. -/
def fnExactPartsOfUptoCard : Claim7 := { stood := { row := fnExactPartsOfUptoRow, standIns := [], harness := (true, "678274ba719d8b2a17a4881ce4d430d40ebff735bda3140aad25555a2391266c"), looks := false }, kinds := [], alts := [], laidByText := true, laidKinds := [.data, .data, .data], laidTests := true, laidLooks := .later }
def FnExactPartsOfUptoCardSaid : Prop := Claim7.holds Tryz.pinned (.plain (OpenSpec.upto fnExactPartsOfSpec)) fnExactPartsOfUptoCard
end Rows
end Go.Proofs.YtgcdbbidmfdonaaGreatDoor
