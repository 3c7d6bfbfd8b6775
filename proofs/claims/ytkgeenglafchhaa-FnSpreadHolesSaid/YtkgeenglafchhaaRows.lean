/-
  No cell of these rows narrows 'for every input' (looked for: loops, veiled, ifaces, maps, wideKeys, modest, calm, conditions, laid).
  DERIVED. THE GIVEN ROWS OF THIS SEAT. 8 by the template 'for every input the law returns true; each argument reads behind the call as it read before'; 0 by the template 'total and deterministic' (their statements: YtkgeenglafchhaaTotals.lean).
  GIVEN WITH THE SEED: the statements are not yours to turn. If you find one false, say at which input.
  Laid BY PROGRAM, IN A SANDBOX (cutbox-rows.mjs): the forced cells as the released guide's own fill.sh prints them over the translation 0dbd9d6842e3852a… (all of the seat's roots in one cut). By AI agents, Wed Nov 11 2026. No macro, syntax, notation, axiom, sorry.
-/
import Derived.Test.YtkgeenglafchhaaChecked
import GoSem.Claim
import GoSem.ClaimJoined
import GoSem.ClaimMapViews
import Derived.JoinedTies
import Derived.KernelRfl
namespace Go.Proofs.Ytkgeenglafchhaa
/- THE CELL 'sum', in the pinned program and in every row, IS THE sha256 OF THE DUMP (.gsa) THAT YtkgeenglafchhaaProg.lean LOADS. Nothing in Lean hashes anything: it is a label: what it is worth is what the hold of that sum in a sandbox is worth. -/
noncomputable def Try.pinned : Pinned := { name := "ytkgeenglafchhaa", sum := "0dbd9d6842e3852a06c4930d8036b42a62566665bcd1364fb535265ed8ea04c2", checked := Try.checked }
namespace Rows
def none {H : Type} : Left H := { results := [], args := [] }

/-- 'laws.FnExactIndexError': WHATEVER THE INPUT: true; the input reads as it did. -/
def fnExactIndexErrorSpec : ChangeSpec := { name := "fnExactIndexError", fn := fun _ => fun
  | [d1, d2, d3] => { results := [.lit (.bool true)], args := [d1, d2, d3] }
  | _ => none }
def fnExactIndexErrorRow : OpenClaim := { program := "ytkgeenglafchhaa", sum := "0dbd9d6842e3852a06c4930d8036b42a62566665bcd1364fb535265ed8ea04c2", func := "loop.example/g00921/laws.FnExactIndexError", spec := "fnExactIndexError", apart := false }
def FnExactIndexErrorSaid : Prop := fnExactIndexErrorRow.holds Try.pinned (OpenSpec.ofChange fnExactIndexErrorSpec)

/-- ITS FALSE NEIGHBOUR: 'it returns false'. Refute it at one input. -/
def fnExactIndexErrorWrong : ChangeSpec := { name := "fnExactIndexError", fn := fun _ => fun
  | [d1, d2, d3] => { results := [.lit (.bool false)], args := [d1, d2, d3] }
  | _ => none }
def FnExactIndexErrorWrongFalsely : Prop := fnExactIndexErrorRow.holds Try.pinned (OpenSpec.ofChange fnExactIndexErrorWrong)

/-- 'laws.FnSpreadHoles': WHATEVER THE INPUT: true; the input reads as it did. -/
def fnSpreadHolesSpec : ChangeSpec := { name := "fnSpreadHoles", fn := fun _ => fun
  | [d] => { results := [.lit (.bool true)], args := [d] }
  | _ => none }
def fnSpreadHolesRow : OpenClaim := { program := "ytkgeenglafchhaa", sum := "0dbd9d6842e3852a06c4930d8036b42a62566665bcd1364fb535265ed8ea04c2", func := "loop.example/g00921/laws.FnSpreadHoles", spec := "fnSpreadHoles", apart := false }
def FnSpreadHolesSaid : Prop := fnSpreadHolesRow.holds Try.pinned (OpenSpec.ofChange fnSpreadHolesSpec)

/-- ITS FALSE NEIGHBOUR: 'it returns false'. Refute it at one input. -/
def fnSpreadHolesWrong : ChangeSpec := { name := "fnSpreadHoles", fn := fun _ => fun
  | [d] => { results := [.lit (.bool false)], args := [d] }
  | _ => none }
def FnSpreadHolesWrongFalsely : Prop := fnSpreadHolesRow.holds Try.pinned (OpenSpec.ofChange fnSpreadHolesWrong)

/-- 'laws.FnExactSameMovement': WHATEVER THE INPUT: true; the input reads as it did. -/
def fnExactSameMovementSpec : ChangeSpec := { name := "fnExactSameMovement", fn := fun _ => fun
  | [d1, d2] => { results := [.lit (.bool true)], args := [d1, d2] }
  | _ => none }
def fnExactSameMovementRow : OpenClaim := { program := "ytkgeenglafchhaa", sum := "0dbd9d6842e3852a06c4930d8036b42a62566665bcd1364fb535265ed8ea04c2", func := "loop.example/g00921/laws.FnExactSameMovement", spec := "fnExactSameMovement", unfollowed := true, recurses := true, apart := false }
def FnExactSameMovementSaid : Prop := fnExactSameMovementRow.holds Try.pinned (OpenSpec.ofChange fnExactSameMovementSpec)

/-- ITS FALSE NEIGHBOUR: 'it returns false'. Refute it at one input. -/
def fnExactSameMovementWrong : ChangeSpec := { name := "fnExactSameMovement", fn := fun _ => fun
  | [d1, d2] => { results := [.lit (.bool false)], args := [d1, d2] }
  | _ => none }
def FnExactSameMovementWrongFalsely : Prop := fnExactSameMovementRow.holds Try.pinned (OpenSpec.ofChange fnExactSameMovementWrong)

/-- 'laws.FnExactSameSim': WHATEVER THE INPUT: true; the input reads as it did. -/
def fnExactSameSimSpec : ChangeSpec := { name := "fnExactSameSim", fn := fun _ => fun
  | [d1, d2] => { results := [.lit (.bool true)], args := [d1, d2] }
  | _ => none }
def fnExactSameSimRow : OpenClaim := { program := "ytkgeenglafchhaa", sum := "0dbd9d6842e3852a06c4930d8036b42a62566665bcd1364fb535265ed8ea04c2", func := "loop.example/g00921/laws.FnExactSameSim", spec := "fnExactSameSim", unfollowed := true, recurses := true, apart := false }
def FnExactSameSimSaid : Prop := fnExactSameSimRow.holds Try.pinned (OpenSpec.ofChange fnExactSameSimSpec)

/-- ITS FALSE NEIGHBOUR: 'it returns false'. Refute it at one input. -/
def fnExactSameSimWrong : ChangeSpec := { name := "fnExactSameSim", fn := fun _ => fun
  | [d1, d2] => { results := [.lit (.bool false)], args := [d1, d2] }
  | _ => none }
def FnExactSameSimWrongFalsely : Prop := fnExactSameSimRow.holds Try.pinned (OpenSpec.ofChange fnExactSameSimWrong)

/-- 'laws.FnExactSameDesk': WHATEVER THE INPUT: true; the input reads as it did. -/
def fnExactSameDeskSpec : ChangeSpec := { name := "fnExactSameDesk", fn := fun _ => fun
  | [d1, d2] => { results := [.lit (.bool true)], args := [d1, d2] }
  | _ => none }
def fnExactSameDeskRow : OpenClaim := { program := "ytkgeenglafchhaa", sum := "0dbd9d6842e3852a06c4930d8036b42a62566665bcd1364fb535265ed8ea04c2", func := "loop.example/g00921/laws.FnExactSameDesk", spec := "fnExactSameDesk", unfollowed := true, recurses := true, apart := false }
def FnExactSameDeskSaid : Prop := fnExactSameDeskRow.holds Try.pinned (OpenSpec.ofChange fnExactSameDeskSpec)

/-- ITS FALSE NEIGHBOUR: 'it returns false'. Refute it at one input. -/
def fnExactSameDeskWrong : ChangeSpec := { name := "fnExactSameDesk", fn := fun _ => fun
  | [d1, d2] => { results := [.lit (.bool false)], args := [d1, d2] }
  | _ => none }
def FnExactSameDeskWrongFalsely : Prop := fnExactSameDeskRow.holds Try.pinned (OpenSpec.ofChange fnExactSameDeskWrong)

/-- 'laws.FnExactValidMovement': WHATEVER THE INPUT: true; the input reads as it did. -/
def fnExactValidMovementSpec : ChangeSpec := { name := "fnExactValidMovement", fn := fun _ => fun
  | [d] => { results := [.lit (.bool true)], args := [d] }
  | _ => none }
def fnExactValidMovementRow : OpenClaim := { program := "ytkgeenglafchhaa", sum := "0dbd9d6842e3852a06c4930d8036b42a62566665bcd1364fb535265ed8ea04c2", func := "loop.example/g00921/laws.FnExactValidMovement", spec := "fnExactValidMovement", unfollowed := true, recurses := true, apart := false }
def FnExactValidMovementSaid : Prop := fnExactValidMovementRow.holds Try.pinned (OpenSpec.ofChange fnExactValidMovementSpec)

/-- ITS FALSE NEIGHBOUR: 'it returns false'. Refute it at one input. -/
def fnExactValidMovementWrong : ChangeSpec := { name := "fnExactValidMovement", fn := fun _ => fun
  | [d] => { results := [.lit (.bool false)], args := [d] }
  | _ => none }
def FnExactValidMovementWrongFalsely : Prop := fnExactValidMovementRow.holds Try.pinned (OpenSpec.ofChange fnExactValidMovementWrong)

/-- 'laws.FnExactWheelCount': WHATEVER THE INPUT: true; the input reads as it did. -/
def fnExactWheelCountSpec : ChangeSpec := { name := "fnExactWheelCount", fn := fun _ => fun
  | [d] => { results := [.lit (.bool true)], args := [d] }
  | _ => none }
def fnExactWheelCountRow : OpenClaim := { program := "ytkgeenglafchhaa", sum := "0dbd9d6842e3852a06c4930d8036b42a62566665bcd1364fb535265ed8ea04c2", func := "loop.example/g00921/laws.FnExactWheelCount", spec := "fnExactWheelCount", unfollowed := true, recurses := true, apart := false }
def FnExactWheelCountSaid : Prop := fnExactWheelCountRow.holds Try.pinned (OpenSpec.ofChange fnExactWheelCountSpec)

/-- ITS FALSE NEIGHBOUR: 'it returns false'. Refute it at one input. -/
def fnExactWheelCountWrong : ChangeSpec := { name := "fnExactWheelCount", fn := fun _ => fun
  | [d] => { results := [.lit (.bool false)], args := [d] }
  | _ => none }
def FnExactWheelCountWrongFalsely : Prop := fnExactWheelCountRow.holds Try.pinned (OpenSpec.ofChange fnExactWheelCountWrong)

/-- 'laws.FnExactSpeedOf': WHATEVER THE INPUT: true; the input reads as it did. -/
def fnExactSpeedOfSpec : ChangeSpec := { name := "fnExactSpeedOf", fn := fun _ => fun
  | [d1, d2] => { results := [.lit (.bool true)], args := [d1, d2] }
  | _ => none }
def fnExactSpeedOfRow : OpenClaim := { program := "ytkgeenglafchhaa", sum := "0dbd9d6842e3852a06c4930d8036b42a62566665bcd1364fb535265ed8ea04c2", func := "loop.example/g00921/laws.FnExactSpeedOf", spec := "fnExactSpeedOf", unfollowed := true, recurses := true, apart := false }
def FnExactSpeedOfSaid : Prop := fnExactSpeedOfRow.holds Try.pinned (OpenSpec.ofChange fnExactSpeedOfSpec)

/-- ITS FALSE NEIGHBOUR: 'it returns false'. Refute it at one input. -/
def fnExactSpeedOfWrong : ChangeSpec := { name := "fnExactSpeedOf", fn := fun _ => fun
  | [d1, d2] => { results := [.lit (.bool false)], args := [d1, d2] }
  | _ => none }
def FnExactSpeedOfWrongFalsely : Prop := fnExactSpeedOfRow.holds Try.pinned (OpenSpec.ofChange fnExactSpeedOfWrong)

/- THE SECOND FORM. 'bulk': how many values and letters a reading holds, each counted each time it is reached (what is shared counts as often as it is met; a slice's spare places count too). A statement '..UptoSaid' is the law's where the arguments, and the package variables that the reading takes, are together of bulk at most 1048576: NARROWER than '..Said'. Prove '..Said' where nothing that the law and all that it calls make is longer than what came in: it says more and counts as full. Else prove '..UptoSaid'. A law counts once. -/
mutual
def uptoBulk {H : Type} : DataW H → Nat
  | .lit (.string bytes) => bytes.length + 1
  | .lit _ => 1
  | .nil => 1
  | .ptr d => uptoBulk d + 1
  | .slice elems spare => uptoBulkAll elems + uptoBulkAll spare + 1
  | .agg parts => uptoBulkAll parts + 1
  | .iface _ d => uptoBulk d + 1
  | .map entries => uptoBulkEntries entries + 1
  | .held _ => 1
def uptoBulkAll {H : Type} : List (DataW H) → Nat
  | [] => 0
  | d :: r => uptoBulk d + uptoBulkAll r
def uptoBulkEntries {H : Type} : List (Lit × DataW H) → Nat
  | [] => 0
  | x :: r => uptoBulkEntry x + uptoBulkEntries r
def uptoBulkEntry {H : Type} : Lit × DataW H → Nat
  | (.string bytes, d) => bytes.length + uptoBulk d + 1
  | (_, d) => uptoBulk d + 1
 end
def uptoSmall : (H : Type) → List (DataW H) → Bool := fun _ ds => decide (uptoBulkAll ds ≤ 1048576)
def OpenSpec.upto (s : _root_.Go.ChangeSpec) : _root_.Go.OpenSpec := { _root_.Go.OpenSpec.ofChange s with cond := some uptoSmall }

/-- 'laws.FnExactIndexError', WHERE WHAT IT READS IS OF BULK AT MOST 1048576: true; the input reads as it did. -/
def fnExactIndexErrorUptoRow : OpenClaim := { program := "ytkgeenglafchhaa", sum := "0dbd9d6842e3852a06c4930d8036b42a62566665bcd1364fb535265ed8ea04c2", func := "loop.example/g00921/laws.FnExactIndexError", spec := "fnExactIndexError", apart := false, narrowed := true }
def FnExactIndexErrorUptoSaid : Prop := fnExactIndexErrorUptoRow.holds Try.pinned (OpenSpec.upto fnExactIndexErrorSpec)

/-- 'laws.FnSpreadHoles', WHERE WHAT IT READS IS OF BULK AT MOST 1048576: true; the input reads as it did. -/
def fnSpreadHolesUptoRow : OpenClaim := { program := "ytkgeenglafchhaa", sum := "0dbd9d6842e3852a06c4930d8036b42a62566665bcd1364fb535265ed8ea04c2", func := "loop.example/g00921/laws.FnSpreadHoles", spec := "fnSpreadHoles", apart := false, narrowed := true }
def FnSpreadHolesUptoSaid : Prop := fnSpreadHolesUptoRow.holds Try.pinned (OpenSpec.upto fnSpreadHolesSpec)

/-- 'laws.FnExactSameMovement', WHERE WHAT IT READS IS OF BULK AT MOST 1048576: true; the input reads as it did. -/
def fnExactSameMovementUptoRow : OpenClaim := { program := "ytkgeenglafchhaa", sum := "0dbd9d6842e3852a06c4930d8036b42a62566665bcd1364fb535265ed8ea04c2", func := "loop.example/g00921/laws.FnExactSameMovement", spec := "fnExactSameMovement", unfollowed := true, recurses := true, apart := false, narrowed := true }
def FnExactSameMovementUptoSaid : Prop := fnExactSameMovementUptoRow.holds Try.pinned (OpenSpec.upto fnExactSameMovementSpec)

/-- 'laws.FnExactSameSim', WHERE WHAT IT READS IS OF BULK AT MOST 1048576: true; the input reads as it did. -/
def fnExactSameSimUptoRow : OpenClaim := { program := "ytkgeenglafchhaa", sum := "0dbd9d6842e3852a06c4930d8036b42a62566665bcd1364fb535265ed8ea04c2", func := "loop.example/g00921/laws.FnExactSameSim", spec := "fnExactSameSim", unfollowed := true, recurses := true, apart := false, narrowed := true }
def FnExactSameSimUptoSaid : Prop := fnExactSameSimUptoRow.holds Try.pinned (OpenSpec.upto fnExactSameSimSpec)

/-- 'laws.FnExactSameDesk', WHERE WHAT IT READS IS OF BULK AT MOST 1048576: true; the input reads as it did. -/
def fnExactSameDeskUptoRow : OpenClaim := { program := "ytkgeenglafchhaa", sum := "0dbd9d6842e3852a06c4930d8036b42a62566665bcd1364fb535265ed8ea04c2", func := "loop.example/g00921/laws.FnExactSameDesk", spec := "fnExactSameDesk", unfollowed := true, recurses := true, apart := false, narrowed := true }
def FnExactSameDeskUptoSaid : Prop := fnExactSameDeskUptoRow.holds Try.pinned (OpenSpec.upto fnExactSameDeskSpec)

/-- 'laws.FnExactValidMovement', WHERE WHAT IT READS IS OF BULK AT MOST 1048576: true; the input reads as it did. -/
def fnExactValidMovementUptoRow : OpenClaim := { program := "ytkgeenglafchhaa", sum := "0dbd9d6842e3852a06c4930d8036b42a62566665bcd1364fb535265ed8ea04c2", func := "loop.example/g00921/laws.FnExactValidMovement", spec := "fnExactValidMovement", unfollowed := true, recurses := true, apart := false, narrowed := true }
def FnExactValidMovementUptoSaid : Prop := fnExactValidMovementUptoRow.holds Try.pinned (OpenSpec.upto fnExactValidMovementSpec)

/-- 'laws.FnExactWheelCount', WHERE WHAT IT READS IS OF BULK AT MOST 1048576: true; the input reads as it did. -/
def fnExactWheelCountUptoRow : OpenClaim := { program := "ytkgeenglafchhaa", sum := "0dbd9d6842e3852a06c4930d8036b42a62566665bcd1364fb535265ed8ea04c2", func := "loop.example/g00921/laws.FnExactWheelCount", spec := "fnExactWheelCount", unfollowed := true, recurses := true, apart := false, narrowed := true }
def FnExactWheelCountUptoSaid : Prop := fnExactWheelCountUptoRow.holds Try.pinned (OpenSpec.upto fnExactWheelCountSpec)

/-- 'laws.FnExactSpeedOf', WHERE WHAT IT READS IS OF BULK AT MOST 1048576: true; the input reads as it did. -/
def fnExactSpeedOfUptoRow : OpenClaim := { program := "ytkgeenglafchhaa", sum := "0dbd9d6842e3852a06c4930d8036b42a62566665bcd1364fb535265ed8ea04c2", func := "loop.example/g00921/laws.FnExactSpeedOf", spec := "fnExactSpeedOf", unfollowed := true, recurses := true, apart := false, narrowed := true }
def FnExactSpeedOfUptoSaid : Prop := fnExactSpeedOfUptoRow.holds Try.pinned (OpenSpec.upto fnExactSpeedOfSpec)

end Rows
end Go.Proofs.Ytkgeenglafchhaa
