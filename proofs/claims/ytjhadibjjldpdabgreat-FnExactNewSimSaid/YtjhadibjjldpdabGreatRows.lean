/-
  No cell of these rows narrows 'for every input' (looked for: loops, veiled, ifaces, maps, wideKeys, modest, calm, conditions, laid).
  DERIVED. THE GIVEN ROWS OF THIS SEAT. 5 by the template 'for every input the law returns true; each argument reads behind the call as it read before'; 0 by the template 'total and deterministic' (their statements: YtjhadibjjldpdabGreatTotals.lean).
  GIVEN WITH THE SEED: the statements are not yours to turn. If you find one false, say at which input.
  Laid BY PROGRAM, IN A SANDBOX (cutbox-rows.mjs): the forced cells as the released guide's own fill.sh prints them over the translation 759901f128883379… (all of the seat's roots in one cut). By AI agents, Wed Nov 11 2026. No macro, syntax, notation, axiom, sorry.
-/
import Derived.Test.YtjhadibjjldpdabGreatChecked
import GoSem.Claim
import GoSem.ClaimJoined
import GoSem.ClaimMapViews
import Derived.JoinedTies
import Derived.KernelRfl
namespace Go.Proofs.YtjhadibjjldpdabGreat
/- THE CELL 'sum', in the pinned program and in every row, IS THE sha256 OF THE DUMP (.gsa) THAT YtjhadibjjldpdabGreatProg.lean LOADS. Nothing in Lean hashes anything: it is a label: what it is worth is what the hold of that sum in a sandbox is worth. -/
noncomputable def Tryz.pinned : Pinned := { name := "ytjhadibjjldpdabgreat", sum := "759901f128883379c817b702341a0349d35177916391116c256b662e0e72d006", checked := Tryz.checked }
namespace Rows
def none {H : Type} : Left H := { results := [], args := [] }

/-- 'laws.FnExactValidDesk': WHATEVER THE INPUT: true; the input reads as it did. -/
def fnExactValidDeskSpec : ChangeSpec := { name := "fnExactValidDesk", fn := fun _ => fun
  | [d] => { results := [.lit (.bool true)], args := [d] }
  | _ => none }
def fnExactValidDeskRow : OpenClaim := { program := "ytjhadibjjldpdabgreat", sum := "759901f128883379c817b702341a0349d35177916391116c256b662e0e72d006", func := "loop.example/g00921/laws.FnExactValidDesk", spec := "fnExactValidDesk", unfollowed := true, recurses := true, apart := false }
def FnExactValidDeskSaid : Prop := fnExactValidDeskRow.holds Tryz.pinned (OpenSpec.ofChange fnExactValidDeskSpec)

/-- ITS FALSE NEIGHBOUR: 'it returns false'. Refute it at one input. -/
def fnExactValidDeskWrong : ChangeSpec := { name := "fnExactValidDesk", fn := fun _ => fun
  | [d] => { results := [.lit (.bool false)], args := [d] }
  | _ => none }
def FnExactValidDeskWrongFalsely : Prop := fnExactValidDeskRow.holds Tryz.pinned (OpenSpec.ofChange fnExactValidDeskWrong)

/-- 'laws.FnExactHandsOf': WHATEVER THE INPUT: true; the input reads as it did. -/
def fnExactHandsOfSpec : ChangeSpec := { name := "fnExactHandsOf", fn := fun _ => fun
  | [d] => { results := [.lit (.bool true)], args := [d] }
  | _ => none }
def fnExactHandsOfRow : OpenClaim := { program := "ytjhadibjjldpdabgreat", sum := "759901f128883379c817b702341a0349d35177916391116c256b662e0e72d006", func := "loop.example/g00921/laws.FnExactHandsOf", spec := "fnExactHandsOf", unfollowed := true, recurses := true, apart := false }
def FnExactHandsOfSaid : Prop := fnExactHandsOfRow.holds Tryz.pinned (OpenSpec.ofChange fnExactHandsOfSpec)

/-- ITS FALSE NEIGHBOUR: 'it returns false'. Refute it at one input. -/
def fnExactHandsOfWrong : ChangeSpec := { name := "fnExactHandsOf", fn := fun _ => fun
  | [d] => { results := [.lit (.bool false)], args := [d] }
  | _ => none }
def FnExactHandsOfWrongFalsely : Prop := fnExactHandsOfRow.holds Tryz.pinned (OpenSpec.ofChange fnExactHandsOfWrong)

/-- 'laws.FnExactDayOfSim': WHATEVER THE INPUT: true; the input reads as it did. -/
def fnExactDayOfSimSpec : ChangeSpec := { name := "fnExactDayOfSim", fn := fun _ => fun
  | [d] => { results := [.lit (.bool true)], args := [d] }
  | _ => none }
def fnExactDayOfSimRow : OpenClaim := { program := "ytjhadibjjldpdabgreat", sum := "759901f128883379c817b702341a0349d35177916391116c256b662e0e72d006", func := "loop.example/g00921/laws.FnExactDayOfSim", spec := "fnExactDayOfSim", unfollowed := true, recurses := true, apart := false }
def FnExactDayOfSimSaid : Prop := fnExactDayOfSimRow.holds Tryz.pinned (OpenSpec.ofChange fnExactDayOfSimSpec)

/-- ITS FALSE NEIGHBOUR: 'it returns false'. Refute it at one input. -/
def fnExactDayOfSimWrong : ChangeSpec := { name := "fnExactDayOfSim", fn := fun _ => fun
  | [d] => { results := [.lit (.bool false)], args := [d] }
  | _ => none }
def FnExactDayOfSimWrongFalsely : Prop := fnExactDayOfSimRow.holds Tryz.pinned (OpenSpec.ofChange fnExactDayOfSimWrong)

/-- 'laws.FnExactNewSim': WHATEVER THE INPUT: true; the input reads as it did. -/
def fnExactNewSimSpec : ChangeSpec := { name := "fnExactNewSim", fn := fun _ => fun
  | [d1, d2, d3] => { results := [.lit (.bool true)], args := [d1, d2, d3] }
  | _ => none }
def fnExactNewSimRow : OpenClaim := { program := "ytjhadibjjldpdabgreat", sum := "759901f128883379c817b702341a0349d35177916391116c256b662e0e72d006", func := "loop.example/g00921/laws.FnExactNewSim", spec := "fnExactNewSim", unfollowed := true, recurses := true, apart := false }
def FnExactNewSimSaid : Prop := fnExactNewSimRow.holds Tryz.pinned (OpenSpec.ofChange fnExactNewSimSpec)

/-- ITS FALSE NEIGHBOUR: 'it returns false'. Refute it at one input. -/
def fnExactNewSimWrong : ChangeSpec := { name := "fnExactNewSim", fn := fun _ => fun
  | [d1, d2, d3] => { results := [.lit (.bool false)], args := [d1, d2, d3] }
  | _ => none }
def FnExactNewSimWrongFalsely : Prop := fnExactNewSimRow.holds Tryz.pinned (OpenSpec.ofChange fnExactNewSimWrong)

/-- 'laws.FnExactDialRight': WHATEVER THE INPUT: true; the input reads as it did. -/
def fnExactDialRightSpec : ChangeSpec := { name := "fnExactDialRight", fn := fun _ => fun
  | [d] => { results := [.lit (.bool true)], args := [d] }
  | _ => none }
def fnExactDialRightRow : OpenClaim := { program := "ytjhadibjjldpdabgreat", sum := "759901f128883379c817b702341a0349d35177916391116c256b662e0e72d006", func := "loop.example/g00921/laws.FnExactDialRight", spec := "fnExactDialRight", unfollowed := true, recurses := true, apart := false }
def FnExactDialRightSaid : Prop := fnExactDialRightRow.holds Tryz.pinned (OpenSpec.ofChange fnExactDialRightSpec)

/-- ITS FALSE NEIGHBOUR: 'it returns false'. Refute it at one input. -/
def fnExactDialRightWrong : ChangeSpec := { name := "fnExactDialRight", fn := fun _ => fun
  | [d] => { results := [.lit (.bool false)], args := [d] }
  | _ => none }
def FnExactDialRightWrongFalsely : Prop := fnExactDialRightRow.holds Tryz.pinned (OpenSpec.ofChange fnExactDialRightWrong)

/- THE SECOND FORM. 'bulk': how many values and letters a reading holds, each counted each time it is reached (what is shared counts as often as it is met; a slice's spare places count too). A statement '..UptoSaid' is the law's where the arguments, and the package variables that the reading takes, are together of bulk at most 1048576: NARROWER than '..Said'. Prove '..Said' where nothing that the law and all that it calls make is longer than what came in: it says more and counts as full. Else prove '..UptoSaid'. A law counts once. -/
mutual
def uptoBulk {H : Type} : DataW H → Nat
  | .lit (.string bytes) => bytes.length + 1
  | .lit _ => 1
  | .nil => 1
  | .ptr d => uptoBulk d + 1
  | .slice elems spare => uptoBulkAll elems + uptoBulkAll spare + 1
  | .agg parts => uptoBulkAll parts + 1
  | .iface _ d => uptoBulk d + 1
  | .map entries => uptoBulkEntries entries + 1
  | .held _ => 1
def uptoBulkAll {H : Type} : List (DataW H) → Nat
  | [] => 0
  | d :: r => uptoBulk d + uptoBulkAll r
def uptoBulkEntries {H : Type} : List (Lit × DataW H) → Nat
  | [] => 0
  | x :: r => uptoBulkEntry x + uptoBulkEntries r
def uptoBulkEntry {H : Type} : Lit × DataW H → Nat
  | (.string bytes, d) => bytes.length + uptoBulk d + 1
  | (_, d) => uptoBulk d + 1
 end
def uptoSmall : (H : Type) → List (DataW H) → Bool := fun _ ds => decide (uptoBulkAll ds ≤ 1048576)
def OpenSpec.upto (s : _root_.Go.ChangeSpec) : _root_.Go.OpenSpec := { _root_.Go.OpenSpec.ofChange s with cond := some uptoSmall }

/-- 'laws.FnExactValidDesk', WHERE WHAT IT READS IS OF BULK AT MOST 1048576: true; the input reads as it did. -/
def fnExactValidDeskUptoRow : OpenClaim := { program := "ytjhadibjjldpdabgreat", sum := "759901f128883379c817b702341a0349d35177916391116c256b662e0e72d006", func := "loop.example/g00921/laws.FnExactValidDesk", spec := "fnExactValidDesk", unfollowed := true, recurses := true, apart := false, narrowed := true }
def FnExactValidDeskUptoSaid : Prop := fnExactValidDeskUptoRow.holds Tryz.pinned (OpenSpec.upto fnExactValidDeskSpec)

/-- 'laws.FnExactHandsOf', WHERE WHAT IT READS IS OF BULK AT MOST 1048576: true; the input reads as it did. -/
def fnExactHandsOfUptoRow : OpenClaim := { program := "ytjhadibjjldpdabgreat", sum := "759901f128883379c817b702341a0349d35177916391116c256b662e0e72d006", func := "loop.example/g00921/laws.FnExactHandsOf", spec := "fnExactHandsOf", unfollowed := true, recurses := true, apart := false, narrowed := true }
def FnExactHandsOfUptoSaid : Prop := fnExactHandsOfUptoRow.holds Tryz.pinned (OpenSpec.upto fnExactHandsOfSpec)

/-- 'laws.FnExactDayOfSim', WHERE WHAT IT READS IS OF BULK AT MOST 1048576: true; the input reads as it did. -/
def fnExactDayOfSimUptoRow : OpenClaim := { program := "ytjhadibjjldpdabgreat", sum := "759901f128883379c817b702341a0349d35177916391116c256b662e0e72d006", func := "loop.example/g00921/laws.FnExactDayOfSim", spec := "fnExactDayOfSim", unfollowed := true, recurses := true, apart := false, narrowed := true }
def FnExactDayOfSimUptoSaid : Prop := fnExactDayOfSimUptoRow.holds Tryz.pinned (OpenSpec.upto fnExactDayOfSimSpec)

/-- 'laws.FnExactNewSim', WHERE WHAT IT READS IS OF BULK AT MOST 1048576: true; the input reads as it did. -/
def fnExactNewSimUptoRow : OpenClaim := { program := "ytjhadibjjldpdabgreat", sum := "759901f128883379c817b702341a0349d35177916391116c256b662e0e72d006", func := "loop.example/g00921/laws.FnExactNewSim", spec := "fnExactNewSim", unfollowed := true, recurses := true, apart := false, narrowed := true }
def FnExactNewSimUptoSaid : Prop := fnExactNewSimUptoRow.holds Tryz.pinned (OpenSpec.upto fnExactNewSimSpec)

/-- 'laws.FnExactDialRight', WHERE WHAT IT READS IS OF BULK AT MOST 1048576: true; the input reads as it did. -/
def fnExactDialRightUptoRow : OpenClaim := { program := "ytjhadibjjldpdabgreat", sum := "759901f128883379c817b702341a0349d35177916391116c256b662e0e72d006", func := "loop.example/g00921/laws.FnExactDialRight", spec := "fnExactDialRight", unfollowed := true, recurses := true, apart := false, narrowed := true }
def FnExactDialRightUptoSaid : Prop := fnExactDialRightUptoRow.holds Tryz.pinned (OpenSpec.upto fnExactDialRightSpec)

end Rows
end Go.Proofs.YtjhadibjjldpdabGreat
