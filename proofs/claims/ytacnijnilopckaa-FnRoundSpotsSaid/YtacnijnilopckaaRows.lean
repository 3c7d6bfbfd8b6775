/-
  No cell of these rows narrows 'for every input' (looked for: loops, veiled, ifaces, maps, wideKeys, modest, calm, conditions, laid).
  DERIVED. THE GIVEN ROWS OF THIS SEAT. 6 by the template 'for every input the law returns true; each argument reads behind the call as it read before'; 0 by the template 'total and deterministic' (their statements: YtacnijnilopckaaTotals.lean).
  GIVEN WITH THE SEED: the statements are not yours to turn. If you find one false, say at which input.
  Laid BY PROGRAM, IN A SANDBOX (cutbox-rows.mjs): the forced cells as the released guide's own fill.sh prints them over the translation fd6840d84485075f… (all of the seat's roots in one cut). By AI agents, Wed Nov 11 2026. No macro, syntax, notation, axiom, sorry.
-/
import Derived.Test.YtacnijnilopckaaChecked
import GoSem.Claim
import GoSem.ClaimJoined
import GoSem.ClaimMapViews
import Derived.JoinedTies
import Derived.KernelRfl
namespace Go.Proofs.Ytacnijnilopckaa
/- THE CELL 'sum', in the pinned program and in every row, IS THE sha256 OF THE DUMP (.gsa) THAT YtacnijnilopckaaProg.lean LOADS. Nothing in Lean hashes anything: it is a label: what it is worth is what the hold of that sum in a sandbox is worth. -/
noncomputable def Try.pinned : Pinned := { name := "ytacnijnilopckaa", sum := "fd6840d84485075f9d25a598e81a83e1c4a1cd192ae0b7ddd198ecedd7d7aee7", checked := Try.checked }
namespace Rows
def none {H : Type} : Left H := { results := [], args := [] }

/-- 'laws.FnBlows': WHATEVER THE INPUT: true; the input reads as it did. -/
def fnBlowsSpec : ChangeSpec := { name := "fnBlows", fn := fun _ => fun
  | [d] => { results := [.lit (.bool true)], args := [d] }
  | _ => none }
def fnBlowsRow : OpenClaim := { program := "ytacnijnilopckaa", sum := "fd6840d84485075f9d25a598e81a83e1c4a1cd192ae0b7ddd198ecedd7d7aee7", func := "loop.example/g00921/laws.FnBlows", spec := "fnBlows", apart := false }
def FnBlowsSaid : Prop := fnBlowsRow.holds Try.pinned (OpenSpec.ofChange fnBlowsSpec)

/-- ITS FALSE NEIGHBOUR: 'it returns false'. Refute it at one input. -/
def fnBlowsWrong : ChangeSpec := { name := "fnBlows", fn := fun _ => fun
  | [d] => { results := [.lit (.bool false)], args := [d] }
  | _ => none }
def FnBlowsWrongFalsely : Prop := fnBlowsRow.holds Try.pinned (OpenSpec.ofChange fnBlowsWrong)

/-- 'laws.FnExactBlowsBetween': WHATEVER THE INPUT: true; the input reads as it did. -/
def fnExactBlowsBetweenSpec : ChangeSpec := { name := "fnExactBlowsBetween", fn := fun _ => fun
  | [d1, d2, d3] => { results := [.lit (.bool true)], args := [d1, d2, d3] }
  | _ => none }
def fnExactBlowsBetweenRow : OpenClaim := { program := "ytacnijnilopckaa", sum := "fd6840d84485075f9d25a598e81a83e1c4a1cd192ae0b7ddd198ecedd7d7aee7", func := "loop.example/g00921/laws.FnExactBlowsBetween", spec := "fnExactBlowsBetween", apart := false }
def FnExactBlowsBetweenSaid : Prop := fnExactBlowsBetweenRow.holds Try.pinned (OpenSpec.ofChange fnExactBlowsBetweenSpec)

/-- ITS FALSE NEIGHBOUR: 'it returns false'. Refute it at one input. -/
def fnExactBlowsBetweenWrong : ChangeSpec := { name := "fnExactBlowsBetween", fn := fun _ => fun
  | [d1, d2, d3] => { results := [.lit (.bool false)], args := [d1, d2, d3] }
  | _ => none }
def FnExactBlowsBetweenWrongFalsely : Prop := fnExactBlowsBetweenRow.holds Try.pinned (OpenSpec.ofChange fnExactBlowsBetweenWrong)

/-- 'laws.FnExactDeskWords': WHATEVER THE INPUT: true; the input reads as it did. -/
def fnExactDeskWordsSpec : ChangeSpec := { name := "fnExactDeskWords", fn := fun _ => fun
  | [] => { results := [.lit (.bool true)], args := [] }
  | _ => none }
def fnExactDeskWordsRow : OpenClaim := { program := "ytacnijnilopckaa", sum := "fd6840d84485075f9d25a598e81a83e1c4a1cd192ae0b7ddd198ecedd7d7aee7", func := "loop.example/g00921/laws.FnExactDeskWords", spec := "fnExactDeskWords", apart := false }
def FnExactDeskWordsSaid : Prop := fnExactDeskWordsRow.holds Try.pinned (OpenSpec.ofChange fnExactDeskWordsSpec)

/-- ITS FALSE NEIGHBOUR: 'it returns false'. Refute it at one input. -/
def fnExactDeskWordsWrong : ChangeSpec := { name := "fnExactDeskWords", fn := fun _ => fun
  | [] => { results := [.lit (.bool false)], args := [] }
  | _ => none }
def FnExactDeskWordsWrongFalsely : Prop := fnExactDeskWordsRow.holds Try.pinned (OpenSpec.ofChange fnExactDeskWordsWrong)

/-- 'laws.FnExactRoundSpot': WHATEVER THE INPUT: true; the input reads as it did. -/
def fnExactRoundSpotSpec : ChangeSpec := { name := "fnExactRoundSpot", fn := fun _ => fun
  | [d1, d2, d3] => { results := [.lit (.bool true)], args := [d1, d2, d3] }
  | _ => none }
def fnExactRoundSpotRow : OpenClaim := { program := "ytacnijnilopckaa", sum := "fd6840d84485075f9d25a598e81a83e1c4a1cd192ae0b7ddd198ecedd7d7aee7", func := "loop.example/g00921/laws.FnExactRoundSpot", spec := "fnExactRoundSpot", recurses := true, apart := false }
def FnExactRoundSpotSaid : Prop := fnExactRoundSpotRow.holds Try.pinned (OpenSpec.ofChange fnExactRoundSpotSpec)

/-- ITS FALSE NEIGHBOUR: 'it returns false'. Refute it at one input. -/
def fnExactRoundSpotWrong : ChangeSpec := { name := "fnExactRoundSpot", fn := fun _ => fun
  | [d1, d2, d3] => { results := [.lit (.bool false)], args := [d1, d2, d3] }
  | _ => none }
def FnExactRoundSpotWrongFalsely : Prop := fnExactRoundSpotRow.holds Try.pinned (OpenSpec.ofChange fnExactRoundSpotWrong)

/-- 'laws.FnRoundSpots': WHATEVER THE INPUT: true; the input reads as it did. -/
def fnRoundSpotsSpec : ChangeSpec := { name := "fnRoundSpots", fn := fun _ => fun
  | [d] => { results := [.lit (.bool true)], args := [d] }
  | _ => none }
def fnRoundSpotsRow : OpenClaim := { program := "ytacnijnilopckaa", sum := "fd6840d84485075f9d25a598e81a83e1c4a1cd192ae0b7ddd198ecedd7d7aee7", func := "loop.example/g00921/laws.FnRoundSpots", spec := "fnRoundSpots", recurses := true, apart := false }
def FnRoundSpotsSaid : Prop := fnRoundSpotsRow.holds Try.pinned (OpenSpec.ofChange fnRoundSpotsSpec)

/-- ITS FALSE NEIGHBOUR: 'it returns false'. Refute it at one input. -/
def fnRoundSpotsWrong : ChangeSpec := { name := "fnRoundSpots", fn := fun _ => fun
  | [d] => { results := [.lit (.bool false)], args := [d] }
  | _ => none }
def FnRoundSpotsWrongFalsely : Prop := fnRoundSpotsRow.holds Try.pinned (OpenSpec.ofChange fnRoundSpotsWrong)

/-- 'laws.FnExactSameDrawing': WHATEVER THE INPUT: true; the input reads as it did. -/
def fnExactSameDrawingSpec : ChangeSpec := { name := "fnExactSameDrawing", fn := fun _ => fun
  | [d1, d2] => { results := [.lit (.bool true)], args := [d1, d2] }
  | _ => none }
def fnExactSameDrawingRow : OpenClaim := { program := "ytacnijnilopckaa", sum := "fd6840d84485075f9d25a598e81a83e1c4a1cd192ae0b7ddd198ecedd7d7aee7", func := "loop.example/g00921/laws.FnExactSameDrawing", spec := "fnExactSameDrawing", apart := false }
def FnExactSameDrawingSaid : Prop := fnExactSameDrawingRow.holds Try.pinned (OpenSpec.ofChange fnExactSameDrawingSpec)

/-- ITS FALSE NEIGHBOUR: 'it returns false'. Refute it at one input. -/
def fnExactSameDrawingWrong : ChangeSpec := { name := "fnExactSameDrawing", fn := fun _ => fun
  | [d1, d2] => { results := [.lit (.bool false)], args := [d1, d2] }
  | _ => none }
def FnExactSameDrawingWrongFalsely : Prop := fnExactSameDrawingRow.holds Try.pinned (OpenSpec.ofChange fnExactSameDrawingWrong)

/- THE SECOND FORM. 'bulk': how many values and letters a reading holds, each counted each time it is reached (what is shared counts as often as it is met; a slice's spare places count too). A statement '..UptoSaid' is the law's where the arguments, and the package variables that the reading takes, are together of bulk at most 1048576: NARROWER than '..Said'. Prove '..Said' where nothing that the law and all that it calls make is longer than what came in: it says more and counts as full. Else prove '..UptoSaid'. A law counts once. -/
mutual
def uptoBulk {H : Type} : DataW H → Nat
  | .lit (.string bytes) => bytes.length + 1
  | .lit _ => 1
  | .nil => 1
  | .ptr d => uptoBulk d + 1
  | .slice elems spare => uptoBulkAll elems + uptoBulkAll spare + 1
  | .agg parts => uptoBulkAll parts + 1
  | .iface _ d => uptoBulk d + 1
  | .map entries => uptoBulkEntries entries + 1
  | .held _ => 1
def uptoBulkAll {H : Type} : List (DataW H) → Nat
  | [] => 0
  | d :: r => uptoBulk d + uptoBulkAll r
def uptoBulkEntries {H : Type} : List (Lit × DataW H) → Nat
  | [] => 0
  | x :: r => uptoBulkEntry x + uptoBulkEntries r
def uptoBulkEntry {H : Type} : Lit × DataW H → Nat
  | (.string bytes, d) => bytes.length + uptoBulk d + 1
  | (_, d) => uptoBulk d + 1
 end
def uptoSmall : (H : Type) → List (DataW H) → Bool := fun _ ds => decide (uptoBulkAll ds ≤ 1048576)
def OpenSpec.upto (s : _root_.Go.ChangeSpec) : _root_.Go.OpenSpec := { _root_.Go.OpenSpec.ofChange s with cond := some uptoSmall }

/-- 'laws.FnBlows', WHERE WHAT IT READS IS OF BULK AT MOST 1048576: true; the input reads as it did. -/
def fnBlowsUptoRow : OpenClaim := { program := "ytacnijnilopckaa", sum := "fd6840d84485075f9d25a598e81a83e1c4a1cd192ae0b7ddd198ecedd7d7aee7", func := "loop.example/g00921/laws.FnBlows", spec := "fnBlows", apart := false, narrowed := true }
def FnBlowsUptoSaid : Prop := fnBlowsUptoRow.holds Try.pinned (OpenSpec.upto fnBlowsSpec)

/-- 'laws.FnExactBlowsBetween', WHERE WHAT IT READS IS OF BULK AT MOST 1048576: true; the input reads as it did. -/
def fnExactBlowsBetweenUptoRow : OpenClaim := { program := "ytacnijnilopckaa", sum := "fd6840d84485075f9d25a598e81a83e1c4a1cd192ae0b7ddd198ecedd7d7aee7", func := "loop.example/g00921/laws.FnExactBlowsBetween", spec := "fnExactBlowsBetween", apart := false, narrowed := true }
def FnExactBlowsBetweenUptoSaid : Prop := fnExactBlowsBetweenUptoRow.holds Try.pinned (OpenSpec.upto fnExactBlowsBetweenSpec)

/-- 'laws.FnExactDeskWords', WHERE WHAT IT READS IS OF BULK AT MOST 1048576: true; the input reads as it did. -/
def fnExactDeskWordsUptoRow : OpenClaim := { program := "ytacnijnilopckaa", sum := "fd6840d84485075f9d25a598e81a83e1c4a1cd192ae0b7ddd198ecedd7d7aee7", func := "loop.example/g00921/laws.FnExactDeskWords", spec := "fnExactDeskWords", apart := false, narrowed := true }
def FnExactDeskWordsUptoSaid : Prop := fnExactDeskWordsUptoRow.holds Try.pinned (OpenSpec.upto fnExactDeskWordsSpec)

/-- 'laws.FnExactRoundSpot', WHERE WHAT IT READS IS OF BULK AT MOST 1048576: true; the input reads as it did. -/
def fnExactRoundSpotUptoRow : OpenClaim := { program := "ytacnijnilopckaa", sum := "fd6840d84485075f9d25a598e81a83e1c4a1cd192ae0b7ddd198ecedd7d7aee7", func := "loop.example/g00921/laws.FnExactRoundSpot", spec := "fnExactRoundSpot", recurses := true, apart := false, narrowed := true }
def FnExactRoundSpotUptoSaid : Prop := fnExactRoundSpotUptoRow.holds Try.pinned (OpenSpec.upto fnExactRoundSpotSpec)

/-- 'laws.FnRoundSpots', WHERE WHAT IT READS IS OF BULK AT MOST 1048576: true; the input reads as it did. -/
def fnRoundSpotsUptoRow : OpenClaim := { program := "ytacnijnilopckaa", sum := "fd6840d84485075f9d25a598e81a83e1c4a1cd192ae0b7ddd198ecedd7d7aee7", func := "loop.example/g00921/laws.FnRoundSpots", spec := "fnRoundSpots", recurses := true, apart := false, narrowed := true }
def FnRoundSpotsUptoSaid : Prop := fnRoundSpotsUptoRow.holds Try.pinned (OpenSpec.upto fnRoundSpotsSpec)

/-- 'laws.FnExactSameDrawing', WHERE WHAT IT READS IS OF BULK AT MOST 1048576: true; the input reads as it did. -/
def fnExactSameDrawingUptoRow : OpenClaim := { program := "ytacnijnilopckaa", sum := "fd6840d84485075f9d25a598e81a83e1c4a1cd192ae0b7ddd198ecedd7d7aee7", func := "loop.example/g00921/laws.FnExactSameDrawing", spec := "fnExactSameDrawing", apart := false, narrowed := true }
def FnExactSameDrawingUptoSaid : Prop := fnExactSameDrawingUptoRow.holds Try.pinned (OpenSpec.upto fnExactSameDrawingSpec)

end Rows
end Go.Proofs.Ytacnijnilopckaa
