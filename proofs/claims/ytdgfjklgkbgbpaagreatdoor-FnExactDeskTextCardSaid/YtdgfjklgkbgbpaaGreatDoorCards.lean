/-
  DERIVED. GIVEN WITH THE SEED: THE CARDS: each row of YtdgfjklgkbgbpaaGreatDoorRows.lean that lists a variable, with what it lists TIED to the program's text (the seventh form; the later family's looks); each row that meets fmt, with fmt's text TOLD by the authors' own Lean function (tested against real Go, not proved from fmt's source: count such statements apart). THE CARD IS WHAT COUNTS. Prove the row's statement (the work); the ties are given (YtdgfjklgkbgbpaaGreatDoorTie.lean); close each card by the builder's one call (the guide's Derived/Test/ToyasCard.lean, 'card_holds'). Laid BY PROGRAM, IN A SANDBOX (cutbox-door.mjs). By AI agents, Wed Nov 11 2026. No macro, syntax, notation, axiom, sorry.
-/
import Derived.Test.YtdgfjklgkbgbpaaGreatDoorRows
import GoSem.ClaimSeven
namespace Go.Proofs.YtdgfjklgkbgbpaaGreatDoor
namespace Rows

/-- THE TIED CARD OF 'laws.FnExactSimText'. -/
def fnExactSimTextCard : Claim7 := { stood := { row := fnExactSimTextRow, standIns := [], harness := (true, "f9a03582096ba662229f606274fe3c91ed8fddb29ba501a077eb6cee0f691666"), looks := false }, kinds := [], alts := [], laidByText := true, laidKinds := [.data, .data, .data], laidTests := true, laidLooks := .later }
def FnExactSimTextCardSaid : Prop := Claim7.holds Tryz.pinned (.plain (OpenSpec.ofChange fnExactSimTextSpec)) fnExactSimTextCard

/-- THE TIED CARD OF 'laws.FnExactDeskText'. -/
def fnExactDeskTextCard : Claim7 := { stood := { row := fnExactDeskTextRow, standIns := [], harness := (true, "f9a03582096ba662229f606274fe3c91ed8fddb29ba501a077eb6cee0f691666"), looks := false }, kinds := [], alts := [], laidByText := true, laidKinds := [.data, .data, .data], laidTests := true, laidLooks := .later }
def FnExactDeskTextCardSaid : Prop := Claim7.holds Tryz.pinned (.plain (OpenSpec.ofChange fnExactDeskTextSpec)) fnExactDeskTextCard

/-- THE SECOND FORM's CARD OF 'laws.FnExactSimText'. -/
def fnExactSimTextUptoCard : Claim7 := { stood := { row := fnExactSimTextUptoRow, standIns := [], harness := (true, "f9a03582096ba662229f606274fe3c91ed8fddb29ba501a077eb6cee0f691666"), looks := false }, kinds := [], alts := [], laidByText := true, laidKinds := [.data, .data, .data], laidTests := true, laidLooks := .later }
def FnExactSimTextUptoCardSaid : Prop := Claim7.holds Tryz.pinned (.plain (OpenSpec.upto fnExactSimTextSpec)) fnExactSimTextUptoCard

/-- THE SECOND FORM's CARD OF 'laws.FnExactDeskText'. -/
def fnExactDeskTextUptoCard : Claim7 := { stood := { row := fnExactDeskTextUptoRow, standIns := [], harness := (true, "f9a03582096ba662229f606274fe3c91ed8fddb29ba501a077eb6cee0f691666"), looks := false }, kinds := [], alts := [], laidByText := true, laidKinds := [.data, .data, .data], laidTests := true, laidLooks := .later }
def FnExactDeskTextUptoCardSaid : Prop := Claim7.holds Tryz.pinned (.plain (OpenSpec.upto fnExactDeskTextSpec)) fnExactDeskTextUptoCard
end Rows
end Go.Proofs.YtdgfjklgkbgbpaaGreatDoor
