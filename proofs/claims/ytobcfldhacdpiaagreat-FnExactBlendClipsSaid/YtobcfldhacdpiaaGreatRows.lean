/-
  No cell of these rows narrows 'for every input' (looked for: loops, veiled, ifaces, maps, wideKeys, modest, calm, conditions, laid).
  DERIVED. THE GIVEN ROWS OF THIS SEAT. 5 by the template 'for every input the law returns true; each argument reads behind the call as it read before'; 0 by the template 'total and deterministic' (their statements: YtobcfldhacdpiaaGreatTotals.lean).
  GIVEN WITH THE SEED: the statements are not yours to turn. If you find one false, say at which input.
  Laid BY PROGRAM, IN A SANDBOX (cutbox-rows.mjs): the forced cells as the released guide's own fill.sh prints them over the translation b4f50d6e82028d90… (all of the seat's roots in one cut). By AI agents, Wed Nov 11 2026. No macro, syntax, notation, axiom, sorry.
-/
import Derived.Test.YtobcfldhacdpiaaGreatChecked
import GoSem.Claim
import GoSem.ClaimJoined
import GoSem.ClaimMapViews
import Derived.JoinedTies
import Derived.KernelRfl
namespace Go.Proofs.YtobcfldhacdpiaaGreat
/- THE CELL 'sum', in the pinned program and in every row, IS THE sha256 OF THE DUMP (.gsa) THAT YtobcfldhacdpiaaGreatProg.lean LOADS. Nothing in Lean hashes anything: it is a label: what it is worth is what the hold of that sum in a sandbox is worth. -/
noncomputable def Tryz.pinned : Pinned := { name := "ytobcfldhacdpiaagreat", sum := "b4f50d6e82028d904e496f3ed2feec379c9f73ed0b12881ed70fa934fc395197", checked := Tryz.checked }
namespace Rows
def none {H : Type} : Left H := { results := [], args := [] }

/-- 'laws.FnExactStepRun': WHATEVER THE INPUT: true; the input reads as it did. -/
def fnExactStepRunSpec : ChangeSpec := { name := "fnExactStepRun", fn := fun _ => fun
  | [d1, d2, d3] => { results := [.lit (.bool true)], args := [d1, d2, d3] }
  | _ => none }
def fnExactStepRunRow : OpenClaim := { program := "ytobcfldhacdpiaagreat", sum := "b4f50d6e82028d904e496f3ed2feec379c9f73ed0b12881ed70fa934fc395197", func := "loop.example/g01180/laws.FnExactStepRun", spec := "fnExactStepRun", inPlace := ["math.sqrt"], unfollowed := true, recurses := true, apart := false }
def FnExactStepRunSaid : Prop := fnExactStepRunRow.holds Tryz.pinned (OpenSpec.ofChange fnExactStepRunSpec)

/-- ITS FALSE NEIGHBOUR: 'it returns false'. Refute it at one input. -/
def fnExactStepRunWrong : ChangeSpec := { name := "fnExactStepRun", fn := fun _ => fun
  | [d1, d2, d3] => { results := [.lit (.bool false)], args := [d1, d2, d3] }
  | _ => none }
def FnExactStepRunWrongFalsely : Prop := fnExactStepRunRow.holds Tryz.pinned (OpenSpec.ofChange fnExactStepRunWrong)

/-- 'laws.FnExactBlendClips': WHATEVER THE INPUT: true; the input reads as it did. -/
def fnExactBlendClipsSpec : ChangeSpec := { name := "fnExactBlendClips", fn := fun _ => fun
  | [d1, d2, d3, d4] => { results := [.lit (.bool true)], args := [d1, d2, d3, d4] }
  | _ => none }
def fnExactBlendClipsRow : OpenClaim := { program := "ytobcfldhacdpiaagreat", sum := "b4f50d6e82028d904e496f3ed2feec379c9f73ed0b12881ed70fa934fc395197", func := "loop.example/g01180/laws.FnExactBlendClips", spec := "fnExactBlendClips", inPlace := ["math.sqrt"], unfollowed := true, recurses := true, apart := false }
def FnExactBlendClipsSaid : Prop := fnExactBlendClipsRow.holds Tryz.pinned (OpenSpec.ofChange fnExactBlendClipsSpec)

/-- ITS FALSE NEIGHBOUR: 'it returns false'. Refute it at one input. -/
def fnExactBlendClipsWrong : ChangeSpec := { name := "fnExactBlendClips", fn := fun _ => fun
  | [d1, d2, d3, d4] => { results := [.lit (.bool false)], args := [d1, d2, d3, d4] }
  | _ => none }
def FnExactBlendClipsWrongFalsely : Prop := fnExactBlendClipsRow.holds Tryz.pinned (OpenSpec.ofChange fnExactBlendClipsWrong)

/-- 'laws.FnExactPoseOfRun': WHATEVER THE INPUT: true; the input reads as it did. -/
def fnExactPoseOfRunSpec : ChangeSpec := { name := "fnExactPoseOfRun", fn := fun _ => fun
  | [d1, d2] => { results := [.lit (.bool true)], args := [d1, d2] }
  | _ => none }
def fnExactPoseOfRunRow : OpenClaim := { program := "ytobcfldhacdpiaagreat", sum := "b4f50d6e82028d904e496f3ed2feec379c9f73ed0b12881ed70fa934fc395197", func := "loop.example/g01180/laws.FnExactPoseOfRun", spec := "fnExactPoseOfRun", inPlace := ["math.sqrt"], unfollowed := true, recurses := true, apart := false }
def FnExactPoseOfRunSaid : Prop := fnExactPoseOfRunRow.holds Tryz.pinned (OpenSpec.ofChange fnExactPoseOfRunSpec)

/-- ITS FALSE NEIGHBOUR: 'it returns false'. Refute it at one input. -/
def fnExactPoseOfRunWrong : ChangeSpec := { name := "fnExactPoseOfRun", fn := fun _ => fun
  | [d1, d2] => { results := [.lit (.bool false)], args := [d1, d2] }
  | _ => none }
def FnExactPoseOfRunWrongFalsely : Prop := fnExactPoseOfRunRow.holds Tryz.pinned (OpenSpec.ofChange fnExactPoseOfRunWrong)

/-- 'laws.FnExactReachedStates': WHATEVER THE INPUT: true; the input reads as it did. -/
def fnExactReachedStatesSpec : ChangeSpec := { name := "fnExactReachedStates", fn := fun _ => fun
  | [d1, d2] => { results := [.lit (.bool true)], args := [d1, d2] }
  | _ => none }
def fnExactReachedStatesRow : OpenClaim := { program := "ytobcfldhacdpiaagreat", sum := "b4f50d6e82028d904e496f3ed2feec379c9f73ed0b12881ed70fa934fc395197", func := "loop.example/g01180/laws.FnExactReachedStates", spec := "fnExactReachedStates", inPlace := ["math.sqrt"], unfollowed := true, recurses := true, apart := false }
def FnExactReachedStatesSaid : Prop := fnExactReachedStatesRow.holds Tryz.pinned (OpenSpec.ofChange fnExactReachedStatesSpec)

/-- ITS FALSE NEIGHBOUR: 'it returns false'. Refute it at one input. -/
def fnExactReachedStatesWrong : ChangeSpec := { name := "fnExactReachedStates", fn := fun _ => fun
  | [d1, d2] => { results := [.lit (.bool false)], args := [d1, d2] }
  | _ => none }
def FnExactReachedStatesWrongFalsely : Prop := fnExactReachedStatesRow.holds Tryz.pinned (OpenSpec.ofChange fnExactReachedStatesWrong)

/-- 'laws.FnExactRunMachine': WHATEVER THE INPUT: true; the input reads as it did. -/
def fnExactRunMachineSpec : ChangeSpec := { name := "fnExactRunMachine", fn := fun _ => fun
  | [d1, d2, d3] => { results := [.lit (.bool true)], args := [d1, d2, d3] }
  | _ => none }
def fnExactRunMachineRow : OpenClaim := { program := "ytobcfldhacdpiaagreat", sum := "b4f50d6e82028d904e496f3ed2feec379c9f73ed0b12881ed70fa934fc395197", func := "loop.example/g01180/laws.FnExactRunMachine", spec := "fnExactRunMachine", inPlace := ["math.sqrt"], unfollowed := true, recurses := true, apart := false }
def FnExactRunMachineSaid : Prop := fnExactRunMachineRow.holds Tryz.pinned (OpenSpec.ofChange fnExactRunMachineSpec)

/-- ITS FALSE NEIGHBOUR: 'it returns false'. Refute it at one input. -/
def fnExactRunMachineWrong : ChangeSpec := { name := "fnExactRunMachine", fn := fun _ => fun
  | [d1, d2, d3] => { results := [.lit (.bool false)], args := [d1, d2, d3] }
  | _ => none }
def FnExactRunMachineWrongFalsely : Prop := fnExactRunMachineRow.holds Tryz.pinned (OpenSpec.ofChange fnExactRunMachineWrong)

/- THE SECOND FORM. 'bulk': how many values and letters a reading holds, each counted each time it is reached (what is shared counts as often as it is met; a slice's spare places count too). A statement '..UptoSaid' is the law's where the arguments, and the package variables that the reading takes, are together of bulk at most 1048576: NARROWER than '..Said'. Prove '..Said' where nothing that the law and all that it calls make is longer than what came in: it says more and counts as full. Else prove '..UptoSaid'. A law counts once. -/
mutual
def uptoBulk {H : Type} : DataW H → Nat
  | .lit (.string bytes) => bytes.length + 1
  | .lit _ => 1
  | .nil => 1
  | .ptr d => uptoBulk d + 1
  | .slice elems spare => uptoBulkAll elems + uptoBulkAll spare + 1
  | .agg parts => uptoBulkAll parts + 1
  | .iface _ d => uptoBulk d + 1
  | .map entries => uptoBulkEntries entries + 1
  | .held _ => 1
def uptoBulkAll {H : Type} : List (DataW H) → Nat
  | [] => 0
  | d :: r => uptoBulk d + uptoBulkAll r
def uptoBulkEntries {H : Type} : List (Lit × DataW H) → Nat
  | [] => 0
  | x :: r => uptoBulkEntry x + uptoBulkEntries r
def uptoBulkEntry {H : Type} : Lit × DataW H → Nat
  | (.string bytes, d) => bytes.length + uptoBulk d + 1
  | (_, d) => uptoBulk d + 1
 end
def uptoSmall : (H : Type) → List (DataW H) → Bool := fun _ ds => decide (uptoBulkAll ds ≤ 1048576)
def OpenSpec.upto (s : _root_.Go.ChangeSpec) : _root_.Go.OpenSpec := { _root_.Go.OpenSpec.ofChange s with cond := some uptoSmall }

/-- 'laws.FnExactStepRun', WHERE WHAT IT READS IS OF BULK AT MOST 1048576: true; the input reads as it did. -/
def fnExactStepRunUptoRow : OpenClaim := { program := "ytobcfldhacdpiaagreat", sum := "b4f50d6e82028d904e496f3ed2feec379c9f73ed0b12881ed70fa934fc395197", func := "loop.example/g01180/laws.FnExactStepRun", spec := "fnExactStepRun", inPlace := ["math.sqrt"], unfollowed := true, recurses := true, apart := false, narrowed := true }
def FnExactStepRunUptoSaid : Prop := fnExactStepRunUptoRow.holds Tryz.pinned (OpenSpec.upto fnExactStepRunSpec)

/-- 'laws.FnExactBlendClips', WHERE WHAT IT READS IS OF BULK AT MOST 1048576: true; the input reads as it did. -/
def fnExactBlendClipsUptoRow : OpenClaim := { program := "ytobcfldhacdpiaagreat", sum := "b4f50d6e82028d904e496f3ed2feec379c9f73ed0b12881ed70fa934fc395197", func := "loop.example/g01180/laws.FnExactBlendClips", spec := "fnExactBlendClips", inPlace := ["math.sqrt"], unfollowed := true, recurses := true, apart := false, narrowed := true }
def FnExactBlendClipsUptoSaid : Prop := fnExactBlendClipsUptoRow.holds Tryz.pinned (OpenSpec.upto fnExactBlendClipsSpec)

/-- 'laws.FnExactPoseOfRun', WHERE WHAT IT READS IS OF BULK AT MOST 1048576: true; the input reads as it did. -/
def fnExactPoseOfRunUptoRow : OpenClaim := { program := "ytobcfldhacdpiaagreat", sum := "b4f50d6e82028d904e496f3ed2feec379c9f73ed0b12881ed70fa934fc395197", func := "loop.example/g01180/laws.FnExactPoseOfRun", spec := "fnExactPoseOfRun", inPlace := ["math.sqrt"], unfollowed := true, recurses := true, apart := false, narrowed := true }
def FnExactPoseOfRunUptoSaid : Prop := fnExactPoseOfRunUptoRow.holds Tryz.pinned (OpenSpec.upto fnExactPoseOfRunSpec)

/-- 'laws.FnExactReachedStates', WHERE WHAT IT READS IS OF BULK AT MOST 1048576: true; the input reads as it did. -/
def fnExactReachedStatesUptoRow : OpenClaim := { program := "ytobcfldhacdpiaagreat", sum := "b4f50d6e82028d904e496f3ed2feec379c9f73ed0b12881ed70fa934fc395197", func := "loop.example/g01180/laws.FnExactReachedStates", spec := "fnExactReachedStates", inPlace := ["math.sqrt"], unfollowed := true, recurses := true, apart := false, narrowed := true }
def FnExactReachedStatesUptoSaid : Prop := fnExactReachedStatesUptoRow.holds Tryz.pinned (OpenSpec.upto fnExactReachedStatesSpec)

/-- 'laws.FnExactRunMachine', WHERE WHAT IT READS IS OF BULK AT MOST 1048576: true; the input reads as it did. -/
def fnExactRunMachineUptoRow : OpenClaim := { program := "ytobcfldhacdpiaagreat", sum := "b4f50d6e82028d904e496f3ed2feec379c9f73ed0b12881ed70fa934fc395197", func := "loop.example/g01180/laws.FnExactRunMachine", spec := "fnExactRunMachine", inPlace := ["math.sqrt"], unfollowed := true, recurses := true, apart := false, narrowed := true }
def FnExactRunMachineUptoSaid : Prop := fnExactRunMachineUptoRow.holds Tryz.pinned (OpenSpec.upto fnExactRunMachineSpec)

end Rows
end Go.Proofs.YtobcfldhacdpiaaGreat
