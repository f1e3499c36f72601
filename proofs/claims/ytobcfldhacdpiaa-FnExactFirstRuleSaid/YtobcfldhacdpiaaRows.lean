/-
  No cell of these rows narrows 'for every input' (looked for: loops, veiled, ifaces, maps, wideKeys, modest, calm, conditions, laid).
  DERIVED. THE GIVEN ROWS OF THIS SEAT. 5 by the template 'for every input the law returns true; each argument reads behind the call as it read before'; 0 by the template 'total and deterministic' (their statements: YtobcfldhacdpiaaTotals.lean).
  GIVEN WITH THE SEED: the statements are not yours to turn. If you find one false, say at which input.
  Laid BY PROGRAM, IN A SANDBOX (cutbox-rows.mjs): the forced cells as the released guide's own fill.sh prints them over the translation 5db9b1f20c26bc4c… (all of the seat's roots in one cut). By AI agents, Wed Nov 11 2026. No macro, syntax, notation, axiom, sorry.
-/
import Derived.Test.YtobcfldhacdpiaaChecked
import GoSem.Claim
import GoSem.ClaimJoined
import GoSem.ClaimMapViews
import Derived.JoinedTies
import Derived.KernelRfl
namespace Go.Proofs.Ytobcfldhacdpiaa
/- THE CELL 'sum', in the pinned program and in every row, IS THE sha256 OF THE DUMP (.gsa) THAT YtobcfldhacdpiaaProg.lean LOADS. Nothing in Lean hashes anything: it is a label: what it is worth is what the hold of that sum in a sandbox is worth. -/
noncomputable def Try.pinned : Pinned := { name := "ytobcfldhacdpiaa", sum := "5db9b1f20c26bc4cd002c43cf8f7d9793cf464d08024449d5846fd1dd2dd3c43", checked := Try.checked }
namespace Rows
def none {H : Type} : Left H := { results := [], args := [] }

/-- 'laws.FnExactValidMachine': WHATEVER THE INPUT: true; the input reads as it did. -/
def fnExactValidMachineSpec : ChangeSpec := { name := "fnExactValidMachine", fn := fun _ => fun
  | [d] => { results := [.lit (.bool true)], args := [d] }
  | _ => none }
def fnExactValidMachineRow : OpenClaim := { program := "ytobcfldhacdpiaa", sum := "5db9b1f20c26bc4cd002c43cf8f7d9793cf464d08024449d5846fd1dd2dd3c43", func := "loop.example/g01180/laws.FnExactValidMachine", spec := "fnExactValidMachine", inPlace := ["math.sqrt"], unfollowed := true, recurses := true, apart := false }
def FnExactValidMachineSaid : Prop := fnExactValidMachineRow.holds Try.pinned (OpenSpec.ofChange fnExactValidMachineSpec)

/-- ITS FALSE NEIGHBOUR: 'it returns false'. Refute it at one input. -/
def fnExactValidMachineWrong : ChangeSpec := { name := "fnExactValidMachine", fn := fun _ => fun
  | [d] => { results := [.lit (.bool false)], args := [d] }
  | _ => none }
def FnExactValidMachineWrongFalsely : Prop := fnExactValidMachineRow.holds Try.pinned (OpenSpec.ofChange fnExactValidMachineWrong)

/-- 'laws.FnExactStartRun': WHATEVER THE INPUT: true; the input reads as it did. -/
def fnExactStartRunSpec : ChangeSpec := { name := "fnExactStartRun", fn := fun _ => fun
  | [d1, d2] => { results := [.lit (.bool true)], args := [d1, d2] }
  | _ => none }
def fnExactStartRunRow : OpenClaim := { program := "ytobcfldhacdpiaa", sum := "5db9b1f20c26bc4cd002c43cf8f7d9793cf464d08024449d5846fd1dd2dd3c43", func := "loop.example/g01180/laws.FnExactStartRun", spec := "fnExactStartRun", inPlace := ["math.sqrt"], unfollowed := true, recurses := true, apart := false }
def FnExactStartRunSaid : Prop := fnExactStartRunRow.holds Try.pinned (OpenSpec.ofChange fnExactStartRunSpec)

/-- ITS FALSE NEIGHBOUR: 'it returns false'. Refute it at one input. -/
def fnExactStartRunWrong : ChangeSpec := { name := "fnExactStartRun", fn := fun _ => fun
  | [d1, d2] => { results := [.lit (.bool false)], args := [d1, d2] }
  | _ => none }
def FnExactStartRunWrongFalsely : Prop := fnExactStartRunRow.holds Try.pinned (OpenSpec.ofChange fnExactStartRunWrong)

/-- 'laws.FnExactIsRun': WHATEVER THE INPUT: true; the input reads as it did. -/
def fnExactIsRunSpec : ChangeSpec := { name := "fnExactIsRun", fn := fun _ => fun
  | [d1, d2] => { results := [.lit (.bool true)], args := [d1, d2] }
  | _ => none }
def fnExactIsRunRow : OpenClaim := { program := "ytobcfldhacdpiaa", sum := "5db9b1f20c26bc4cd002c43cf8f7d9793cf464d08024449d5846fd1dd2dd3c43", func := "loop.example/g01180/laws.FnExactIsRun", spec := "fnExactIsRun", inPlace := ["math.sqrt"], unfollowed := true, recurses := true, apart := false }
def FnExactIsRunSaid : Prop := fnExactIsRunRow.holds Try.pinned (OpenSpec.ofChange fnExactIsRunSpec)

/-- ITS FALSE NEIGHBOUR: 'it returns false'. Refute it at one input. -/
def fnExactIsRunWrong : ChangeSpec := { name := "fnExactIsRun", fn := fun _ => fun
  | [d1, d2] => { results := [.lit (.bool false)], args := [d1, d2] }
  | _ => none }
def FnExactIsRunWrongFalsely : Prop := fnExactIsRunRow.holds Try.pinned (OpenSpec.ofChange fnExactIsRunWrong)

/-- 'laws.FnExactFirstRule': WHATEVER THE INPUT: true; the input reads as it did. -/
def fnExactFirstRuleSpec : ChangeSpec := { name := "fnExactFirstRule", fn := fun _ => fun
  | [d1, d2, d3] => { results := [.lit (.bool true)], args := [d1, d2, d3] }
  | _ => none }
def fnExactFirstRuleRow : OpenClaim := { program := "ytobcfldhacdpiaa", sum := "5db9b1f20c26bc4cd002c43cf8f7d9793cf464d08024449d5846fd1dd2dd3c43", func := "loop.example/g01180/laws.FnExactFirstRule", spec := "fnExactFirstRule", inPlace := ["math.sqrt"], unfollowed := true, recurses := true, apart := false }
def FnExactFirstRuleSaid : Prop := fnExactFirstRuleRow.holds Try.pinned (OpenSpec.ofChange fnExactFirstRuleSpec)

/-- ITS FALSE NEIGHBOUR: 'it returns false'. Refute it at one input. -/
def fnExactFirstRuleWrong : ChangeSpec := { name := "fnExactFirstRule", fn := fun _ => fun
  | [d1, d2, d3] => { results := [.lit (.bool false)], args := [d1, d2, d3] }
  | _ => none }
def FnExactFirstRuleWrongFalsely : Prop := fnExactFirstRuleRow.holds Try.pinned (OpenSpec.ofChange fnExactFirstRuleWrong)

/-- 'laws.FnExactUnpackPoses': WHATEVER THE INPUT: true; the input reads as it did. -/
def fnExactUnpackPosesSpec : ChangeSpec := { name := "fnExactUnpackPoses", fn := fun _ => fun
  | [d1, d2, d3] => { results := [.lit (.bool true)], args := [d1, d2, d3] }
  | _ => none }
def fnExactUnpackPosesRow : OpenClaim := { program := "ytobcfldhacdpiaa", sum := "5db9b1f20c26bc4cd002c43cf8f7d9793cf464d08024449d5846fd1dd2dd3c43", func := "loop.example/g01180/laws.FnExactUnpackPoses", spec := "fnExactUnpackPoses", inPlace := ["math.sqrt"], apart := false }
def FnExactUnpackPosesSaid : Prop := fnExactUnpackPosesRow.holds Try.pinned (OpenSpec.ofChange fnExactUnpackPosesSpec)

/-- ITS FALSE NEIGHBOUR: 'it returns false'. Refute it at one input. -/
def fnExactUnpackPosesWrong : ChangeSpec := { name := "fnExactUnpackPoses", fn := fun _ => fun
  | [d1, d2, d3] => { results := [.lit (.bool false)], args := [d1, d2, d3] }
  | _ => none }
def FnExactUnpackPosesWrongFalsely : Prop := fnExactUnpackPosesRow.holds Try.pinned (OpenSpec.ofChange fnExactUnpackPosesWrong)

/- THE SECOND FORM. 'bulk': how many values and letters a reading holds, each counted each time it is reached (what is shared counts as often as it is met; a slice's spare places count too). A statement '..UptoSaid' is the law's where the arguments, and the package variables that the reading takes, are together of bulk at most 1048576: NARROWER than '..Said'. Prove '..Said' where nothing that the law and all that it calls make is longer than what came in: it says more and counts as full. Else prove '..UptoSaid'. A law counts once. -/
mutual
def uptoBulk {H : Type} : DataW H → Nat
  | .lit (.string bytes) => bytes.length + 1
  | .lit _ => 1
  | .nil => 1
  | .ptr d => uptoBulk d + 1
  | .slice elems spare => uptoBulkAll elems + uptoBulkAll spare + 1
  | .agg parts => uptoBulkAll parts + 1
  | .iface _ d => uptoBulk d + 1
  | .map entries => uptoBulkEntries entries + 1
  | .held _ => 1
def uptoBulkAll {H : Type} : List (DataW H) → Nat
  | [] => 0
  | d :: r => uptoBulk d + uptoBulkAll r
def uptoBulkEntries {H : Type} : List (Lit × DataW H) → Nat
  | [] => 0
  | x :: r => uptoBulkEntry x + uptoBulkEntries r
def uptoBulkEntry {H : Type} : Lit × DataW H → Nat
  | (.string bytes, d) => bytes.length + uptoBulk d + 1
  | (_, d) => uptoBulk d + 1
 end
def uptoSmall : (H : Type) → List (DataW H) → Bool := fun _ ds => decide (uptoBulkAll ds ≤ 1048576)
def OpenSpec.upto (s : _root_.Go.ChangeSpec) : _root_.Go.OpenSpec := { _root_.Go.OpenSpec.ofChange s with cond := some uptoSmall }

/-- 'laws.FnExactValidMachine', WHERE WHAT IT READS IS OF BULK AT MOST 1048576: true; the input reads as it did. -/
def fnExactValidMachineUptoRow : OpenClaim := { program := "ytobcfldhacdpiaa", sum := "5db9b1f20c26bc4cd002c43cf8f7d9793cf464d08024449d5846fd1dd2dd3c43", func := "loop.example/g01180/laws.FnExactValidMachine", spec := "fnExactValidMachine", inPlace := ["math.sqrt"], unfollowed := true, recurses := true, apart := false, narrowed := true }
def FnExactValidMachineUptoSaid : Prop := fnExactValidMachineUptoRow.holds Try.pinned (OpenSpec.upto fnExactValidMachineSpec)

/-- 'laws.FnExactStartRun', WHERE WHAT IT READS IS OF BULK AT MOST 1048576: true; the input reads as it did. -/
def fnExactStartRunUptoRow : OpenClaim := { program := "ytobcfldhacdpiaa", sum := "5db9b1f20c26bc4cd002c43cf8f7d9793cf464d08024449d5846fd1dd2dd3c43", func := "loop.example/g01180/laws.FnExactStartRun", spec := "fnExactStartRun", inPlace := ["math.sqrt"], unfollowed := true, recurses := true, apart := false, narrowed := true }
def FnExactStartRunUptoSaid : Prop := fnExactStartRunUptoRow.holds Try.pinned (OpenSpec.upto fnExactStartRunSpec)

/-- 'laws.FnExactIsRun', WHERE WHAT IT READS IS OF BULK AT MOST 1048576: true; the input reads as it did. -/
def fnExactIsRunUptoRow : OpenClaim := { program := "ytobcfldhacdpiaa", sum := "5db9b1f20c26bc4cd002c43cf8f7d9793cf464d08024449d5846fd1dd2dd3c43", func := "loop.example/g01180/laws.FnExactIsRun", spec := "fnExactIsRun", inPlace := ["math.sqrt"], unfollowed := true, recurses := true, apart := false, narrowed := true }
def FnExactIsRunUptoSaid : Prop := fnExactIsRunUptoRow.holds Try.pinned (OpenSpec.upto fnExactIsRunSpec)

/-- 'laws.FnExactFirstRule', WHERE WHAT IT READS IS OF BULK AT MOST 1048576: true; the input reads as it did. -/
def fnExactFirstRuleUptoRow : OpenClaim := { program := "ytobcfldhacdpiaa", sum := "5db9b1f20c26bc4cd002c43cf8f7d9793cf464d08024449d5846fd1dd2dd3c43", func := "loop.example/g01180/laws.FnExactFirstRule", spec := "fnExactFirstRule", inPlace := ["math.sqrt"], unfollowed := true, recurses := true, apart := false, narrowed := true }
def FnExactFirstRuleUptoSaid : Prop := fnExactFirstRuleUptoRow.holds Try.pinned (OpenSpec.upto fnExactFirstRuleSpec)

/-- 'laws.FnExactUnpackPoses', WHERE WHAT IT READS IS OF BULK AT MOST 1048576: true; the input reads as it did. -/
def fnExactUnpackPosesUptoRow : OpenClaim := { program := "ytobcfldhacdpiaa", sum := "5db9b1f20c26bc4cd002c43cf8f7d9793cf464d08024449d5846fd1dd2dd3c43", func := "loop.example/g01180/laws.FnExactUnpackPoses", spec := "fnExactUnpackPoses", inPlace := ["math.sqrt"], apart := false, narrowed := true }
def FnExactUnpackPosesUptoSaid : Prop := fnExactUnpackPosesUptoRow.holds Try.pinned (OpenSpec.upto fnExactUnpackPosesSpec)

end Rows
end Go.Proofs.Ytobcfldhacdpiaa
