/-
  No cell of these rows narrows 'for every input' (looked for: loops, veiled, ifaces, maps, wideKeys, modest, calm, conditions, laid).
  DERIVED. THE GIVEN ROWS OF THIS SEAT. 4 by the template 'for every input the law returns true; each argument reads behind the call as it read before'; 0 by the template 'total and deterministic' (their statements: YtlakbomkpnlidaaGreatTotals.lean).
  GIVEN WITH THE SEED: the statements are not yours to turn. If you find one false, say at which input.
  Laid BY PROGRAM, IN A SANDBOX (cutbox-rows.mjs): the forced cells as the released guide's own fill.sh prints them over the translation 0f2be25140eea343… (all of the seat's roots in one cut). By AI agents, Wed Nov 11 2026. No macro, syntax, notation, axiom, sorry.
-/
import Derived.Test.YtlakbomkpnlidaaGreatChecked
import GoSem.Claim
import GoSem.ClaimJoined
import GoSem.ClaimMapViews
import Derived.JoinedTies
import Derived.KernelRfl
namespace Go.Proofs.YtlakbomkpnlidaaGreat
/- THE CELL 'sum', in the pinned program and in every row, IS THE sha256 OF THE DUMP (.gsa) THAT YtlakbomkpnlidaaGreatProg.lean LOADS. Nothing in Lean hashes anything: it is a label: what it is worth is what the hold of that sum in a sandbox is worth. -/
noncomputable def Tryz.pinned : Pinned := { name := "ytlakbomkpnlidaagreat", sum := "0f2be25140eea343006526e3c331f8479bbdfade33034a8b6d155f016e9726ae", checked := Tryz.checked }
namespace Rows
def none {H : Type} : Left H := { results := [], args := [] }

/-- 'laws.FnExactPushSim': WHATEVER THE INPUT: true; the input reads as it did. -/
def fnExactPushSimSpec : ChangeSpec := { name := "fnExactPushSim", fn := fun _ => fun
  | [d1, d2] => { results := [.lit (.bool true)], args := [d1, d2] }
  | _ => none }
def fnExactPushSimRow : OpenClaim := { program := "ytlakbomkpnlidaagreat", sum := "0f2be25140eea343006526e3c331f8479bbdfade33034a8b6d155f016e9726ae", func := "loop.example/g00921/laws.FnExactPushSim", spec := "fnExactPushSim", unfollowed := true, recurses := true, apart := false }
def FnExactPushSimSaid : Prop := fnExactPushSimRow.holds Tryz.pinned (OpenSpec.ofChange fnExactPushSimSpec)

/-- ITS FALSE NEIGHBOUR: 'it returns false'. Refute it at one input. -/
def fnExactPushSimWrong : ChangeSpec := { name := "fnExactPushSim", fn := fun _ => fun
  | [d1, d2] => { results := [.lit (.bool false)], args := [d1, d2] }
  | _ => none }
def FnExactPushSimWrongFalsely : Prop := fnExactPushSimRow.holds Tryz.pinned (OpenSpec.ofChange fnExactPushSimWrong)

/-- 'laws.FnExactRunSim': WHATEVER THE INPUT: true; the input reads as it did. -/
def fnExactRunSimSpec : ChangeSpec := { name := "fnExactRunSim", fn := fun _ => fun
  | [d1, d2] => { results := [.lit (.bool true)], args := [d1, d2] }
  | _ => none }
def fnExactRunSimRow : OpenClaim := { program := "ytlakbomkpnlidaagreat", sum := "0f2be25140eea343006526e3c331f8479bbdfade33034a8b6d155f016e9726ae", func := "loop.example/g00921/laws.FnExactRunSim", spec := "fnExactRunSim", unfollowed := true, recurses := true, apart := false }
def FnExactRunSimSaid : Prop := fnExactRunSimRow.holds Tryz.pinned (OpenSpec.ofChange fnExactRunSimSpec)

/-- ITS FALSE NEIGHBOUR: 'it returns false'. Refute it at one input. -/
def fnExactRunSimWrong : ChangeSpec := { name := "fnExactRunSim", fn := fun _ => fun
  | [d1, d2] => { results := [.lit (.bool false)], args := [d1, d2] }
  | _ => none }
def FnExactRunSimWrongFalsely : Prop := fnExactRunSimRow.holds Tryz.pinned (OpenSpec.ofChange fnExactRunSimWrong)

/-- 'laws.FnRun': WHATEVER THE INPUT: true; the input reads as it did. -/
def fnRunSpec : ChangeSpec := { name := "fnRun", fn := fun _ => fun
  | [d1, d2] => { results := [.lit (.bool true)], args := [d1, d2] }
  | _ => none }
def fnRunRow : OpenClaim := { program := "ytlakbomkpnlidaagreat", sum := "0f2be25140eea343006526e3c331f8479bbdfade33034a8b6d155f016e9726ae", func := "loop.example/g00921/laws.FnRun", spec := "fnRun", unfollowed := true, recurses := true, apart := false }
def FnRunSaid : Prop := fnRunRow.holds Tryz.pinned (OpenSpec.ofChange fnRunSpec)

/-- ITS FALSE NEIGHBOUR: 'it returns false'. Refute it at one input. -/
def fnRunWrong : ChangeSpec := { name := "fnRun", fn := fun _ => fun
  | [d1, d2] => { results := [.lit (.bool false)], args := [d1, d2] }
  | _ => none }
def FnRunWrongFalsely : Prop := fnRunRow.holds Tryz.pinned (OpenSpec.ofChange fnRunWrong)

/-- 'laws.FnExactCorrectSim': WHATEVER THE INPUT: true; the input reads as it did. -/
def fnExactCorrectSimSpec : ChangeSpec := { name := "fnExactCorrectSim", fn := fun _ => fun
  | [d] => { results := [.lit (.bool true)], args := [d] }
  | _ => none }
def fnExactCorrectSimRow : OpenClaim := { program := "ytlakbomkpnlidaagreat", sum := "0f2be25140eea343006526e3c331f8479bbdfade33034a8b6d155f016e9726ae", func := "loop.example/g00921/laws.FnExactCorrectSim", spec := "fnExactCorrectSim", unfollowed := true, recurses := true, apart := false }
def FnExactCorrectSimSaid : Prop := fnExactCorrectSimRow.holds Tryz.pinned (OpenSpec.ofChange fnExactCorrectSimSpec)

/-- ITS FALSE NEIGHBOUR: 'it returns false'. Refute it at one input. -/
def fnExactCorrectSimWrong : ChangeSpec := { name := "fnExactCorrectSim", fn := fun _ => fun
  | [d] => { results := [.lit (.bool false)], args := [d] }
  | _ => none }
def FnExactCorrectSimWrongFalsely : Prop := fnExactCorrectSimRow.holds Tryz.pinned (OpenSpec.ofChange fnExactCorrectSimWrong)

/- THE SECOND FORM. 'bulk': how many values and letters a reading holds, each counted each time it is reached (what is shared counts as often as it is met; a slice's spare places count too). A statement '..UptoSaid' is the law's where the arguments, and the package variables that the reading takes, are together of bulk at most 1048576: NARROWER than '..Said'. Prove '..Said' where nothing that the law and all that it calls make is longer than what came in: it says more and counts as full. Else prove '..UptoSaid'. A law counts once. -/
mutual
def uptoBulk {H : Type} : DataW H → Nat
  | .lit (.string bytes) => bytes.length + 1
  | .lit _ => 1
  | .nil => 1
  | .ptr d => uptoBulk d + 1
  | .slice elems spare => uptoBulkAll elems + uptoBulkAll spare + 1
  | .agg parts => uptoBulkAll parts + 1
  | .iface _ d => uptoBulk d + 1
  | .map entries => uptoBulkEntries entries + 1
  | .held _ => 1
def uptoBulkAll {H : Type} : List (DataW H) → Nat
  | [] => 0
  | d :: r => uptoBulk d + uptoBulkAll r
def uptoBulkEntries {H : Type} : List (Lit × DataW H) → Nat
  | [] => 0
  | x :: r => uptoBulkEntry x + uptoBulkEntries r
def uptoBulkEntry {H : Type} : Lit × DataW H → Nat
  | (.string bytes, d) => bytes.length + uptoBulk d + 1
  | (_, d) => uptoBulk d + 1
 end
def uptoSmall : (H : Type) → List (DataW H) → Bool := fun _ ds => decide (uptoBulkAll ds ≤ 1048576)
def OpenSpec.upto (s : _root_.Go.ChangeSpec) : _root_.Go.OpenSpec := { _root_.Go.OpenSpec.ofChange s with cond := some uptoSmall }

/-- 'laws.FnExactPushSim', WHERE WHAT IT READS IS OF BULK AT MOST 1048576: true; the input reads as it did. -/
def fnExactPushSimUptoRow : OpenClaim := { program := "ytlakbomkpnlidaagreat", sum := "0f2be25140eea343006526e3c331f8479bbdfade33034a8b6d155f016e9726ae", func := "loop.example/g00921/laws.FnExactPushSim", spec := "fnExactPushSim", unfollowed := true, recurses := true, apart := false, narrowed := true }
def FnExactPushSimUptoSaid : Prop := fnExactPushSimUptoRow.holds Tryz.pinned (OpenSpec.upto fnExactPushSimSpec)

/-- 'laws.FnExactRunSim', WHERE WHAT IT READS IS OF BULK AT MOST 1048576: true; the input reads as it did. -/
def fnExactRunSimUptoRow : OpenClaim := { program := "ytlakbomkpnlidaagreat", sum := "0f2be25140eea343006526e3c331f8479bbdfade33034a8b6d155f016e9726ae", func := "loop.example/g00921/laws.FnExactRunSim", spec := "fnExactRunSim", unfollowed := true, recurses := true, apart := false, narrowed := true }
def FnExactRunSimUptoSaid : Prop := fnExactRunSimUptoRow.holds Tryz.pinned (OpenSpec.upto fnExactRunSimSpec)

/-- 'laws.FnRun', WHERE WHAT IT READS IS OF BULK AT MOST 1048576: true; the input reads as it did. -/
def fnRunUptoRow : OpenClaim := { program := "ytlakbomkpnlidaagreat", sum := "0f2be25140eea343006526e3c331f8479bbdfade33034a8b6d155f016e9726ae", func := "loop.example/g00921/laws.FnRun", spec := "fnRun", unfollowed := true, recurses := true, apart := false, narrowed := true }
def FnRunUptoSaid : Prop := fnRunUptoRow.holds Tryz.pinned (OpenSpec.upto fnRunSpec)

/-- 'laws.FnExactCorrectSim', WHERE WHAT IT READS IS OF BULK AT MOST 1048576: true; the input reads as it did. -/
def fnExactCorrectSimUptoRow : OpenClaim := { program := "ytlakbomkpnlidaagreat", sum := "0f2be25140eea343006526e3c331f8479bbdfade33034a8b6d155f016e9726ae", func := "loop.example/g00921/laws.FnExactCorrectSim", spec := "fnExactCorrectSim", unfollowed := true, recurses := true, apart := false, narrowed := true }
def FnExactCorrectSimUptoSaid : Prop := fnExactCorrectSimUptoRow.holds Tryz.pinned (OpenSpec.upto fnExactCorrectSimSpec)

end Rows
end Go.Proofs.YtlakbomkpnlidaaGreat
