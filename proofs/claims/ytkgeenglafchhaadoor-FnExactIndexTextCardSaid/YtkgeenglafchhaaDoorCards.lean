/-
  DERIVED. GIVEN WITH THE SEED: THE CARDS: each row of YtkgeenglafchhaaDoorRows.lean that lists a variable, with what it lists TIED to the program's text (the seventh form; the later family's looks); each row that meets fmt, with fmt's text TOLD by the authors' own Lean function (tested against real Go, not proved from fmt's source: count such statements apart). THE CARD IS WHAT COUNTS. Prove the row's statement (the work); the ties are given (YtkgeenglafchhaaDoorTie.lean); close each card by the builder's one call (the guide's Derived/Test/ToyasCard.lean, 'card_holds'). Laid BY PROGRAM, IN A SANDBOX (cutbox-door.mjs). By AI agents, Wed Nov 11 2026. No macro, syntax, notation, axiom, sorry.
-/
import Derived.Test.YtkgeenglafchhaaDoorRows
import GoSem.ClaimSeven
namespace Go.Proofs.YtkgeenglafchhaaDoor
namespace Rows

/-- THE TIED CARD OF 'laws.FnExactClockText'. -/
def fnExactClockTextCard : Claim7 := { stood := { row := fnExactClockTextRow, standIns := [], harness := (true, "f393eca398be48a2960b43dcdde118878104771b5af6431fb1f316a26b8d903f"), looks := false }, kinds := [], alts := [], laidByText := true, laidKinds := [.data, .data, .data], laidTests := true, laidLooks := .later }
def FnExactClockTextCardSaid : Prop := Claim7.holds Tryd.pinned (.plain (OpenSpec.ofChange fnExactClockTextSpec)) fnExactClockTextCard

/-- THE TIED CARD OF 'laws.FnExactIndexText'. -/
def fnExactIndexTextCard : Claim7 := { stood := { row := fnExactIndexTextRow, standIns := [], harness := (true, "f393eca398be48a2960b43dcdde118878104771b5af6431fb1f316a26b8d903f"), looks := false }, kinds := [], alts := [], laidByText := true, laidKinds := [.data, .data, .data], laidTests := true, laidLooks := .later }
def FnExactIndexTextCardSaid : Prop := Claim7.holds Tryd.pinned (.plain (OpenSpec.ofChange fnExactIndexTextSpec)) fnExactIndexTextCard

/-- THE SECOND FORM's CARD OF 'laws.FnExactClockText'. -/
def fnExactClockTextUptoCard : Claim7 := { stood := { row := fnExactClockTextUptoRow, standIns := [], harness := (true, "f393eca398be48a2960b43dcdde118878104771b5af6431fb1f316a26b8d903f"), looks := false }, kinds := [], alts := [], laidByText := true, laidKinds := [.data, .data, .data], laidTests := true, laidLooks := .later }
def FnExactClockTextUptoCardSaid : Prop := Claim7.holds Tryd.pinned (.plain (OpenSpec.upto fnExactClockTextSpec)) fnExactClockTextUptoCard

/-- THE SECOND FORM's CARD OF 'laws.FnExactIndexText'. -/
def fnExactIndexTextUptoCard : Claim7 := { stood := { row := fnExactIndexTextUptoRow, standIns := [], harness := (true, "f393eca398be48a2960b43dcdde118878104771b5af6431fb1f316a26b8d903f"), looks := false }, kinds := [], alts := [], laidByText := true, laidKinds := [.data, .data, .data], laidTests := true, laidLooks := .later }
def FnExactIndexTextUptoCardSaid : Prop := Claim7.holds Tryd.pinned (.plain (OpenSpec.upto fnExactIndexTextSpec)) fnExactIndexTextUptoCard
end Rows
end Go.Proofs.YtkgeenglafchhaaDoor
