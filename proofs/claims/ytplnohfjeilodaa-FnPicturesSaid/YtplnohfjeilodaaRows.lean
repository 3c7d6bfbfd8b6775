/-
  No cell of these rows narrows 'for every input' (looked for: loops, veiled, ifaces, maps, wideKeys, modest, calm, conditions, laid).
  DERIVED. THE GIVEN ROWS OF THIS SEAT. 11 by the template 'for every input the law returns true; each argument reads behind the call as it read before'; 0 by the template 'total and deterministic' (their statements: YtplnohfjeilodaaTotals.lean).
  GIVEN WITH THE SEED: the statements are not yours to turn. If you find one false, say at which input.
  Laid BY PROGRAM, IN A SANDBOX (cutbox-rows.mjs): the forced cells as the released guide's own fill.sh prints them over the translation bf08b46e44ae857c… (all of the seat's roots in one cut). By AI agents, Wed Nov 11 2026. No macro, syntax, notation, axiom, sorry.
-/
import Derived.Test.YtplnohfjeilodaaChecked
import GoSem.Claim
import GoSem.ClaimJoined
import GoSem.ClaimMapViews
import Derived.JoinedTies
import Derived.KernelRfl
namespace Go.Proofs.Ytplnohfjeilodaa
/- THE CELL 'sum', in the pinned program and in every row, IS THE sha256 OF THE DUMP (.gsa) THAT YtplnohfjeilodaaProg.lean LOADS. Nothing in Lean hashes anything: it is a label: what it is worth is what the hold of that sum in a sandbox is worth. -/
noncomputable def Try.pinned : Pinned := { name := "ytplnohfjeilodaa", sum := "bf08b46e44ae857c2ec97929d7ccede7e88f0992619afc746ee5da75f09c69b6", checked := Try.checked }
namespace Rows
def none {H : Type} : Left H := { results := [], args := [] }

/-- 'laws.FnExactSameDrawing': WHATEVER THE INPUT: true; the input reads as it did. -/
def fnExactSameDrawingSpec : ChangeSpec := { name := "fnExactSameDrawing", fn := fun _ => fun
  | [d1, d2] => { results := [.lit (.bool true)], args := [d1, d2] }
  | _ => none }
def fnExactSameDrawingRow : OpenClaim := { program := "ytplnohfjeilodaa", sum := "bf08b46e44ae857c2ec97929d7ccede7e88f0992619afc746ee5da75f09c69b6", func := "loop.example/g00921/laws.FnExactSameDrawing", spec := "fnExactSameDrawing", apart := false }
def FnExactSameDrawingSaid : Prop := fnExactSameDrawingRow.holds Try.pinned (OpenSpec.ofChange fnExactSameDrawingSpec)

/-- ITS FALSE NEIGHBOUR: 'it returns false'. Refute it at one input. -/
def fnExactSameDrawingWrong : ChangeSpec := { name := "fnExactSameDrawing", fn := fun _ => fun
  | [d1, d2] => { results := [.lit (.bool false)], args := [d1, d2] }
  | _ => none }
def FnExactSameDrawingWrongFalsely : Prop := fnExactSameDrawingRow.holds Try.pinned (OpenSpec.ofChange fnExactSameDrawingWrong)

/-- 'laws.FnExactDialDrawing': WHATEVER THE INPUT: true; the input reads as it did. -/
def fnExactDialDrawingSpec : ChangeSpec := { name := "fnExactDialDrawing", fn := fun _ => fun
  | [d1, d2] => { results := [.lit (.bool true)], args := [d1, d2] }
  | _ => none }
def fnExactDialDrawingRow : OpenClaim := { program := "ytplnohfjeilodaa", sum := "bf08b46e44ae857c2ec97929d7ccede7e88f0992619afc746ee5da75f09c69b6", func := "loop.example/g00921/laws.FnExactDialDrawing", spec := "fnExactDialDrawing", recurses := true, apart := false }
def FnExactDialDrawingSaid : Prop := fnExactDialDrawingRow.holds Try.pinned (OpenSpec.ofChange fnExactDialDrawingSpec)

/-- ITS FALSE NEIGHBOUR: 'it returns false'. Refute it at one input. -/
def fnExactDialDrawingWrong : ChangeSpec := { name := "fnExactDialDrawing", fn := fun _ => fun
  | [d1, d2] => { results := [.lit (.bool false)], args := [d1, d2] }
  | _ => none }
def FnExactDialDrawingWrongFalsely : Prop := fnExactDialDrawingRow.holds Try.pinned (OpenSpec.ofChange fnExactDialDrawingWrong)

/-- 'laws.FnExactValidDrawing': WHATEVER THE INPUT: true; the input reads as it did. -/
def fnExactValidDrawingSpec : ChangeSpec := { name := "fnExactValidDrawing", fn := fun _ => fun
  | [d] => { results := [.lit (.bool true)], args := [d] }
  | _ => none }
def fnExactValidDrawingRow : OpenClaim := { program := "ytplnohfjeilodaa", sum := "bf08b46e44ae857c2ec97929d7ccede7e88f0992619afc746ee5da75f09c69b6", func := "loop.example/g00921/laws.FnExactValidDrawing", spec := "fnExactValidDrawing", unfollowed := true, recurses := true, apart := false }
def FnExactValidDrawingSaid : Prop := fnExactValidDrawingRow.holds Try.pinned (OpenSpec.ofChange fnExactValidDrawingSpec)

/-- ITS FALSE NEIGHBOUR: 'it returns false'. Refute it at one input. -/
def fnExactValidDrawingWrong : ChangeSpec := { name := "fnExactValidDrawing", fn := fun _ => fun
  | [d] => { results := [.lit (.bool false)], args := [d] }
  | _ => none }
def FnExactValidDrawingWrongFalsely : Prop := fnExactValidDrawingRow.holds Try.pinned (OpenSpec.ofChange fnExactValidDrawingWrong)

/-- 'laws.FnExactBoxOf': WHATEVER THE INPUT: true; the input reads as it did. -/
def fnExactBoxOfSpec : ChangeSpec := { name := "fnExactBoxOf", fn := fun _ => fun
  | [d] => { results := [.lit (.bool true)], args := [d] }
  | _ => none }
def fnExactBoxOfRow : OpenClaim := { program := "ytplnohfjeilodaa", sum := "bf08b46e44ae857c2ec97929d7ccede7e88f0992619afc746ee5da75f09c69b6", func := "loop.example/g00921/laws.FnExactBoxOf", spec := "fnExactBoxOf", unfollowed := true, recurses := true, apart := false }
def FnExactBoxOfSaid : Prop := fnExactBoxOfRow.holds Try.pinned (OpenSpec.ofChange fnExactBoxOfSpec)

/-- ITS FALSE NEIGHBOUR: 'it returns false'. Refute it at one input. -/
def fnExactBoxOfWrong : ChangeSpec := { name := "fnExactBoxOf", fn := fun _ => fun
  | [d] => { results := [.lit (.bool false)], args := [d] }
  | _ => none }
def FnExactBoxOfWrongFalsely : Prop := fnExactBoxOfRow.holds Try.pinned (OpenSpec.ofChange fnExactBoxOfWrong)

/-- 'laws.FnExactGearDrawing': WHATEVER THE INPUT: true; the input reads as it did. -/
def fnExactGearDrawingSpec : ChangeSpec := { name := "fnExactGearDrawing", fn := fun _ => fun
  | [d] => { results := [.lit (.bool true)], args := [d] }
  | _ => none }
def fnExactGearDrawingRow : OpenClaim := { program := "ytplnohfjeilodaa", sum := "bf08b46e44ae857c2ec97929d7ccede7e88f0992619afc746ee5da75f09c69b6", func := "loop.example/g00921/laws.FnExactGearDrawing", spec := "fnExactGearDrawing", unfollowed := true, recurses := true, apart := false }
def FnExactGearDrawingSaid : Prop := fnExactGearDrawingRow.holds Try.pinned (OpenSpec.ofChange fnExactGearDrawingSpec)

/-- ITS FALSE NEIGHBOUR: 'it returns false'. Refute it at one input. -/
def fnExactGearDrawingWrong : ChangeSpec := { name := "fnExactGearDrawing", fn := fun _ => fun
  | [d] => { results := [.lit (.bool false)], args := [d] }
  | _ => none }
def FnExactGearDrawingWrongFalsely : Prop := fnExactGearDrawingRow.holds Try.pinned (OpenSpec.ofChange fnExactGearDrawingWrong)

/-- 'laws.FnExactTurnDrawing': WHATEVER THE INPUT: true; the input reads as it did. -/
def fnExactTurnDrawingSpec : ChangeSpec := { name := "fnExactTurnDrawing", fn := fun _ => fun
  | [d] => { results := [.lit (.bool true)], args := [d] }
  | _ => none }
def fnExactTurnDrawingRow : OpenClaim := { program := "ytplnohfjeilodaa", sum := "bf08b46e44ae857c2ec97929d7ccede7e88f0992619afc746ee5da75f09c69b6", func := "loop.example/g00921/laws.FnExactTurnDrawing", spec := "fnExactTurnDrawing", unfollowed := true, recurses := true, apart := false }
def FnExactTurnDrawingSaid : Prop := fnExactTurnDrawingRow.holds Try.pinned (OpenSpec.ofChange fnExactTurnDrawingSpec)

/-- ITS FALSE NEIGHBOUR: 'it returns false'. Refute it at one input. -/
def fnExactTurnDrawingWrong : ChangeSpec := { name := "fnExactTurnDrawing", fn := fun _ => fun
  | [d] => { results := [.lit (.bool false)], args := [d] }
  | _ => none }
def FnExactTurnDrawingWrongFalsely : Prop := fnExactTurnDrawingRow.holds Try.pinned (OpenSpec.ofChange fnExactTurnDrawingWrong)

/-- 'laws.FnExactJoinDrawings': WHATEVER THE INPUT: true; the input reads as it did. -/
def fnExactJoinDrawingsSpec : ChangeSpec := { name := "fnExactJoinDrawings", fn := fun _ => fun
  | [d1, d2] => { results := [.lit (.bool true)], args := [d1, d2] }
  | _ => none }
def fnExactJoinDrawingsRow : OpenClaim := { program := "ytplnohfjeilodaa", sum := "bf08b46e44ae857c2ec97929d7ccede7e88f0992619afc746ee5da75f09c69b6", func := "loop.example/g00921/laws.FnExactJoinDrawings", spec := "fnExactJoinDrawings", unfollowed := true, recurses := true, apart := false }
def FnExactJoinDrawingsSaid : Prop := fnExactJoinDrawingsRow.holds Try.pinned (OpenSpec.ofChange fnExactJoinDrawingsSpec)

/-- ITS FALSE NEIGHBOUR: 'it returns false'. Refute it at one input. -/
def fnExactJoinDrawingsWrong : ChangeSpec := { name := "fnExactJoinDrawings", fn := fun _ => fun
  | [d1, d2] => { results := [.lit (.bool false)], args := [d1, d2] }
  | _ => none }
def FnExactJoinDrawingsWrongFalsely : Prop := fnExactJoinDrawingsRow.holds Try.pinned (OpenSpec.ofChange fnExactJoinDrawingsWrong)

/-- 'laws.FnExactMoveDrawing': WHATEVER THE INPUT: true; the input reads as it did. -/
def fnExactMoveDrawingSpec : ChangeSpec := { name := "fnExactMoveDrawing", fn := fun _ => fun
  | [d1, d2] => { results := [.lit (.bool true)], args := [d1, d2] }
  | _ => none }
def fnExactMoveDrawingRow : OpenClaim := { program := "ytplnohfjeilodaa", sum := "bf08b46e44ae857c2ec97929d7ccede7e88f0992619afc746ee5da75f09c69b6", func := "loop.example/g00921/laws.FnExactMoveDrawing", spec := "fnExactMoveDrawing", unfollowed := true, recurses := true, apart := false }
def FnExactMoveDrawingSaid : Prop := fnExactMoveDrawingRow.holds Try.pinned (OpenSpec.ofChange fnExactMoveDrawingSpec)

/-- ITS FALSE NEIGHBOUR: 'it returns false'. Refute it at one input. -/
def fnExactMoveDrawingWrong : ChangeSpec := { name := "fnExactMoveDrawing", fn := fun _ => fun
  | [d1, d2] => { results := [.lit (.bool false)], args := [d1, d2] }
  | _ => none }
def FnExactMoveDrawingWrongFalsely : Prop := fnExactMoveDrawingRow.holds Try.pinned (OpenSpec.ofChange fnExactMoveDrawingWrong)

/-- 'laws.FnMovedDrawings': WHATEVER THE INPUT: true; the input reads as it did. -/
def fnMovedDrawingsSpec : ChangeSpec := { name := "fnMovedDrawings", fn := fun _ => fun
  | [d] => { results := [.lit (.bool true)], args := [d] }
  | _ => none }
def fnMovedDrawingsRow : OpenClaim := { program := "ytplnohfjeilodaa", sum := "bf08b46e44ae857c2ec97929d7ccede7e88f0992619afc746ee5da75f09c69b6", func := "loop.example/g00921/laws.FnMovedDrawings", spec := "fnMovedDrawings", unfollowed := true, recurses := true, apart := false }
def FnMovedDrawingsSaid : Prop := fnMovedDrawingsRow.holds Try.pinned (OpenSpec.ofChange fnMovedDrawingsSpec)

/-- ITS FALSE NEIGHBOUR: 'it returns false'. Refute it at one input. -/
def fnMovedDrawingsWrong : ChangeSpec := { name := "fnMovedDrawings", fn := fun _ => fun
  | [d] => { results := [.lit (.bool false)], args := [d] }
  | _ => none }
def FnMovedDrawingsWrongFalsely : Prop := fnMovedDrawingsRow.holds Try.pinned (OpenSpec.ofChange fnMovedDrawingsWrong)

/-- 'laws.FnExactPlateDrawing': WHATEVER THE INPUT: true; the input reads as it did. -/
def fnExactPlateDrawingSpec : ChangeSpec := { name := "fnExactPlateDrawing", fn := fun _ => fun
  | [d] => { results := [.lit (.bool true)], args := [d] }
  | _ => none }
def fnExactPlateDrawingRow : OpenClaim := { program := "ytplnohfjeilodaa", sum := "bf08b46e44ae857c2ec97929d7ccede7e88f0992619afc746ee5da75f09c69b6", func := "loop.example/g00921/laws.FnExactPlateDrawing", spec := "fnExactPlateDrawing", unfollowed := true, recurses := true, apart := false }
def FnExactPlateDrawingSaid : Prop := fnExactPlateDrawingRow.holds Try.pinned (OpenSpec.ofChange fnExactPlateDrawingSpec)

/-- ITS FALSE NEIGHBOUR: 'it returns false'. Refute it at one input. -/
def fnExactPlateDrawingWrong : ChangeSpec := { name := "fnExactPlateDrawing", fn := fun _ => fun
  | [d] => { results := [.lit (.bool false)], args := [d] }
  | _ => none }
def FnExactPlateDrawingWrongFalsely : Prop := fnExactPlateDrawingRow.holds Try.pinned (OpenSpec.ofChange fnExactPlateDrawingWrong)

/-- 'laws.FnPictures': WHATEVER THE INPUT: true; the input reads as it did. -/
def fnPicturesSpec : ChangeSpec := { name := "fnPictures", fn := fun _ => fun
  | [d] => { results := [.lit (.bool true)], args := [d] }
  | _ => none }
def fnPicturesRow : OpenClaim := { program := "ytplnohfjeilodaa", sum := "bf08b46e44ae857c2ec97929d7ccede7e88f0992619afc746ee5da75f09c69b6", func := "loop.example/g00921/laws.FnPictures", spec := "fnPictures", unfollowed := true, recurses := true, apart := false }
def FnPicturesSaid : Prop := fnPicturesRow.holds Try.pinned (OpenSpec.ofChange fnPicturesSpec)

/-- ITS FALSE NEIGHBOUR: 'it returns false'. Refute it at one input. -/
def fnPicturesWrong : ChangeSpec := { name := "fnPictures", fn := fun _ => fun
  | [d] => { results := [.lit (.bool false)], args := [d] }
  | _ => none }
def FnPicturesWrongFalsely : Prop := fnPicturesRow.holds Try.pinned (OpenSpec.ofChange fnPicturesWrong)

/- THE SECOND FORM. 'bulk': how many values and letters a reading holds, each counted each time it is reached (what is shared counts as often as it is met; a slice's spare places count too). A statement '..UptoSaid' is the law's where the arguments, and the package variables that the reading takes, are together of bulk at most 1048576: NARROWER than '..Said'. Prove '..Said' where nothing that the law and all that it calls make is longer than what came in: it says more and counts as full. Else prove '..UptoSaid'. A law counts once. -/
mutual
def uptoBulk {H : Type} : DataW H → Nat
  | .lit (.string bytes) => bytes.length + 1
  | .lit _ => 1
  | .nil => 1
  | .ptr d => uptoBulk d + 1
  | .slice elems spare => uptoBulkAll elems + uptoBulkAll spare + 1
  | .agg parts => uptoBulkAll parts + 1
  | .iface _ d => uptoBulk d + 1
  | .map entries => uptoBulkEntries entries + 1
  | .held _ => 1
def uptoBulkAll {H : Type} : List (DataW H) → Nat
  | [] => 0
  | d :: r => uptoBulk d + uptoBulkAll r
def uptoBulkEntries {H : Type} : List (Lit × DataW H) → Nat
  | [] => 0
  | x :: r => uptoBulkEntry x + uptoBulkEntries r
def uptoBulkEntry {H : Type} : Lit × DataW H → Nat
  | (.string bytes, d) => bytes.length + uptoBulk d + 1
  | (_, d) => uptoBulk d + 1
 end
def uptoSmall : (H : Type) → List (DataW H) → Bool := fun _ ds => decide (uptoBulkAll ds ≤ 1048576)
def OpenSpec.upto (s : _root_.Go.ChangeSpec) : _root_.Go.OpenSpec := { _root_.Go.OpenSpec.ofChange s with cond := some uptoSmall }

/-- 'laws.FnExactSameDrawing', WHERE WHAT IT READS IS OF BULK AT MOST 1048576: true; the input reads as it did. -/
def fnExactSameDrawingUptoRow : OpenClaim := { program := "ytplnohfjeilodaa", sum := "bf08b46e44ae857c2ec97929d7ccede7e88f0992619afc746ee5da75f09c69b6", func := "loop.example/g00921/laws.FnExactSameDrawing", spec := "fnExactSameDrawing", apart := false, narrowed := true }
def FnExactSameDrawingUptoSaid : Prop := fnExactSameDrawingUptoRow.holds Try.pinned (OpenSpec.upto fnExactSameDrawingSpec)

/-- 'laws.FnExactDialDrawing', WHERE WHAT IT READS IS OF BULK AT MOST 1048576: true; the input reads as it did. -/
def fnExactDialDrawingUptoRow : OpenClaim := { program := "ytplnohfjeilodaa", sum := "bf08b46e44ae857c2ec97929d7ccede7e88f0992619afc746ee5da75f09c69b6", func := "loop.example/g00921/laws.FnExactDialDrawing", spec := "fnExactDialDrawing", recurses := true, apart := false, narrowed := true }
def FnExactDialDrawingUptoSaid : Prop := fnExactDialDrawingUptoRow.holds Try.pinned (OpenSpec.upto fnExactDialDrawingSpec)

/-- 'laws.FnExactValidDrawing', WHERE WHAT IT READS IS OF BULK AT MOST 1048576: true; the input reads as it did. -/
def fnExactValidDrawingUptoRow : OpenClaim := { program := "ytplnohfjeilodaa", sum := "bf08b46e44ae857c2ec97929d7ccede7e88f0992619afc746ee5da75f09c69b6", func := "loop.example/g00921/laws.FnExactValidDrawing", spec := "fnExactValidDrawing", unfollowed := true, recurses := true, apart := false, narrowed := true }
def FnExactValidDrawingUptoSaid : Prop := fnExactValidDrawingUptoRow.holds Try.pinned (OpenSpec.upto fnExactValidDrawingSpec)

/-- 'laws.FnExactBoxOf', WHERE WHAT IT READS IS OF BULK AT MOST 1048576: true; the input reads as it did. -/
def fnExactBoxOfUptoRow : OpenClaim := { program := "ytplnohfjeilodaa", sum := "bf08b46e44ae857c2ec97929d7ccede7e88f0992619afc746ee5da75f09c69b6", func := "loop.example/g00921/laws.FnExactBoxOf", spec := "fnExactBoxOf", unfollowed := true, recurses := true, apart := false, narrowed := true }
def FnExactBoxOfUptoSaid : Prop := fnExactBoxOfUptoRow.holds Try.pinned (OpenSpec.upto fnExactBoxOfSpec)

/-- 'laws.FnExactGearDrawing', WHERE WHAT IT READS IS OF BULK AT MOST 1048576: true; the input reads as it did. -/
def fnExactGearDrawingUptoRow : OpenClaim := { program := "ytplnohfjeilodaa", sum := "bf08b46e44ae857c2ec97929d7ccede7e88f0992619afc746ee5da75f09c69b6", func := "loop.example/g00921/laws.FnExactGearDrawing", spec := "fnExactGearDrawing", unfollowed := true, recurses := true, apart := false, narrowed := true }
def FnExactGearDrawingUptoSaid : Prop := fnExactGearDrawingUptoRow.holds Try.pinned (OpenSpec.upto fnExactGearDrawingSpec)

/-- 'laws.FnExactTurnDrawing', WHERE WHAT IT READS IS OF BULK AT MOST 1048576: true; the input reads as it did. -/
def fnExactTurnDrawingUptoRow : OpenClaim := { program := "ytplnohfjeilodaa", sum := "bf08b46e44ae857c2ec97929d7ccede7e88f0992619afc746ee5da75f09c69b6", func := "loop.example/g00921/laws.FnExactTurnDrawing", spec := "fnExactTurnDrawing", unfollowed := true, recurses := true, apart := false, narrowed := true }
def FnExactTurnDrawingUptoSaid : Prop := fnExactTurnDrawingUptoRow.holds Try.pinned (OpenSpec.upto fnExactTurnDrawingSpec)

/-- 'laws.FnExactJoinDrawings', WHERE WHAT IT READS IS OF BULK AT MOST 1048576: true; the input reads as it did. -/
def fnExactJoinDrawingsUptoRow : OpenClaim := { program := "ytplnohfjeilodaa", sum := "bf08b46e44ae857c2ec97929d7ccede7e88f0992619afc746ee5da75f09c69b6", func := "loop.example/g00921/laws.FnExactJoinDrawings", spec := "fnExactJoinDrawings", unfollowed := true, recurses := true, apart := false, narrowed := true }
def FnExactJoinDrawingsUptoSaid : Prop := fnExactJoinDrawingsUptoRow.holds Try.pinned (OpenSpec.upto fnExactJoinDrawingsSpec)

/-- 'laws.FnExactMoveDrawing', WHERE WHAT IT READS IS OF BULK AT MOST 1048576: true; the input reads as it did. -/
def fnExactMoveDrawingUptoRow : OpenClaim := { program := "ytplnohfjeilodaa", sum := "bf08b46e44ae857c2ec97929d7ccede7e88f0992619afc746ee5da75f09c69b6", func := "loop.example/g00921/laws.FnExactMoveDrawing", spec := "fnExactMoveDrawing", unfollowed := true, recurses := true, apart := false, narrowed := true }
def FnExactMoveDrawingUptoSaid : Prop := fnExactMoveDrawingUptoRow.holds Try.pinned (OpenSpec.upto fnExactMoveDrawingSpec)

/-- 'laws.FnMovedDrawings', WHERE WHAT IT READS IS OF BULK AT MOST 1048576: true; the input reads as it did. -/
def fnMovedDrawingsUptoRow : OpenClaim := { program := "ytplnohfjeilodaa", sum := "bf08b46e44ae857c2ec97929d7ccede7e88f0992619afc746ee5da75f09c69b6", func := "loop.example/g00921/laws.FnMovedDrawings", spec := "fnMovedDrawings", unfollowed := true, recurses := true, apart := false, narrowed := true }
def FnMovedDrawingsUptoSaid : Prop := fnMovedDrawingsUptoRow.holds Try.pinned (OpenSpec.upto fnMovedDrawingsSpec)

/-- 'laws.FnExactPlateDrawing', WHERE WHAT IT READS IS OF BULK AT MOST 1048576: true; the input reads as it did. -/
def fnExactPlateDrawingUptoRow : OpenClaim := { program := "ytplnohfjeilodaa", sum := "bf08b46e44ae857c2ec97929d7ccede7e88f0992619afc746ee5da75f09c69b6", func := "loop.example/g00921/laws.FnExactPlateDrawing", spec := "fnExactPlateDrawing", unfollowed := true, recurses := true, apart := false, narrowed := true }
def FnExactPlateDrawingUptoSaid : Prop := fnExactPlateDrawingUptoRow.holds Try.pinned (OpenSpec.upto fnExactPlateDrawingSpec)

/-- 'laws.FnPictures', WHERE WHAT IT READS IS OF BULK AT MOST 1048576: true; the input reads as it did. -/
def fnPicturesUptoRow : OpenClaim := { program := "ytplnohfjeilodaa", sum := "bf08b46e44ae857c2ec97929d7ccede7e88f0992619afc746ee5da75f09c69b6", func := "loop.example/g00921/laws.FnPictures", spec := "fnPictures", unfollowed := true, recurses := true, apart := false, narrowed := true }
def FnPicturesUptoSaid : Prop := fnPicturesUptoRow.holds Try.pinned (OpenSpec.upto fnPicturesSpec)

end Rows
end Go.Proofs.Ytplnohfjeilodaa
