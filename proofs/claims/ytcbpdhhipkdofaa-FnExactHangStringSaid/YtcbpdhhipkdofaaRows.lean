/-
  No cell of these rows narrows 'for every input' (looked for: loops, veiled, ifaces, maps, wideKeys, modest, calm, conditions, laid).
  DERIVED. THE GIVEN ROWS OF THIS SEAT. 12 by the template 'for every input the law returns true; each argument reads behind the call as it read before'; 0 by the template 'total and deterministic' (their statements: YtcbpdhhipkdofaaTotals.lean).
  GIVEN WITH THE SEED: the statements are not yours to turn. If you find one false, say at which input.
  Laid BY PROGRAM, IN A SANDBOX (cutbox-rows.mjs): the forced cells as the released guide's own fill.sh prints them over the translation 748dd1c9c5201758… (all of the seat's roots in one cut). By AI agents, Wed Nov 11 2026. No macro, syntax, notation, axiom, sorry.
-/
import Derived.Test.YtcbpdhhipkdofaaChecked
import GoSem.Claim
import GoSem.ClaimJoined
import GoSem.ClaimMapViews
import Derived.JoinedTies
import Derived.KernelRfl
namespace Go.Proofs.Ytcbpdhhipkdofaa
/- THE CELL 'sum', in the pinned program and in every row, IS THE sha256 OF THE DUMP (.gsa) THAT YtcbpdhhipkdofaaProg.lean LOADS. Nothing in Lean hashes anything: it is a label: what it is worth is what the hold of that sum in a sandbox is worth. -/
noncomputable def Try.pinned : Pinned := { name := "ytcbpdhhipkdofaa", sum := "748dd1c9c52017585806e296b6e91c632f476b8bb13bfdd48564f86a251f5d09", checked := Try.checked }
namespace Rows
def none {H : Type} : Left H := { results := [], args := [] }

/-- 'laws.FnExactIsScale': WHATEVER THE INPUT: true; the input reads as it did. -/
def fnExactIsScaleSpec : ChangeSpec := { name := "fnExactIsScale", fn := fun _ => fun
  | [d] => { results := [.lit (.bool true)], args := [d] }
  | _ => none }
def fnExactIsScaleRow : OpenClaim := { program := "ytcbpdhhipkdofaa", sum := "748dd1c9c52017585806e296b6e91c632f476b8bb13bfdd48564f86a251f5d09", func := "loop.example/g01180/laws.FnExactIsScale", spec := "fnExactIsScale", apart := false }
def FnExactIsScaleSaid : Prop := fnExactIsScaleRow.holds Try.pinned (OpenSpec.ofChange fnExactIsScaleSpec)

/-- ITS FALSE NEIGHBOUR: 'it returns false'. Refute it at one input. -/
def fnExactIsScaleWrong : ChangeSpec := { name := "fnExactIsScale", fn := fun _ => fun
  | [d] => { results := [.lit (.bool false)], args := [d] }
  | _ => none }
def FnExactIsScaleWrongFalsely : Prop := fnExactIsScaleRow.holds Try.pinned (OpenSpec.ofChange fnExactIsScaleWrong)

/-- 'laws.FnExactMiddleOf': WHATEVER THE INPUT: true; the input reads as it did. -/
def fnExactMiddleOfSpec : ChangeSpec := { name := "fnExactMiddleOf", fn := fun _ => fun
  | [d] => { results := [.lit (.bool true)], args := [d] }
  | _ => none }
def fnExactMiddleOfRow : OpenClaim := { program := "ytcbpdhhipkdofaa", sum := "748dd1c9c52017585806e296b6e91c632f476b8bb13bfdd48564f86a251f5d09", func := "loop.example/g01180/laws.FnExactMiddleOf", spec := "fnExactMiddleOf", apart := false }
def FnExactMiddleOfSaid : Prop := fnExactMiddleOfRow.holds Try.pinned (OpenSpec.ofChange fnExactMiddleOfSpec)

/-- ITS FALSE NEIGHBOUR: 'it returns false'. Refute it at one input. -/
def fnExactMiddleOfWrong : ChangeSpec := { name := "fnExactMiddleOf", fn := fun _ => fun
  | [d] => { results := [.lit (.bool false)], args := [d] }
  | _ => none }
def FnExactMiddleOfWrongFalsely : Prop := fnExactMiddleOfRow.holds Try.pinned (OpenSpec.ofChange fnExactMiddleOfWrong)

/-- 'laws.FnExactPartsOfFrames': WHATEVER THE INPUT: true; the input reads as it did. -/
def fnExactPartsOfFramesSpec : ChangeSpec := { name := "fnExactPartsOfFrames", fn := fun _ => fun
  | [d1, d2] => { results := [.lit (.bool true)], args := [d1, d2] }
  | _ => none }
def fnExactPartsOfFramesRow : OpenClaim := { program := "ytcbpdhhipkdofaa", sum := "748dd1c9c52017585806e296b6e91c632f476b8bb13bfdd48564f86a251f5d09", func := "loop.example/g01180/laws.FnExactPartsOfFrames", spec := "fnExactPartsOfFrames", apart := false }
def FnExactPartsOfFramesSaid : Prop := fnExactPartsOfFramesRow.holds Try.pinned (OpenSpec.ofChange fnExactPartsOfFramesSpec)

/-- ITS FALSE NEIGHBOUR: 'it returns false'. Refute it at one input. -/
def fnExactPartsOfFramesWrong : ChangeSpec := { name := "fnExactPartsOfFrames", fn := fun _ => fun
  | [d1, d2] => { results := [.lit (.bool false)], args := [d1, d2] }
  | _ => none }
def FnExactPartsOfFramesWrongFalsely : Prop := fnExactPartsOfFramesRow.holds Try.pinned (OpenSpec.ofChange fnExactPartsOfFramesWrong)

/-- 'laws.FnExactWeightsAt': WHATEVER THE INPUT: true; the input reads as it did. -/
def fnExactWeightsAtSpec : ChangeSpec := { name := "fnExactWeightsAt", fn := fun _ => fun
  | [d1, d2] => { results := [.lit (.bool true)], args := [d1, d2] }
  | _ => none }
def fnExactWeightsAtRow : OpenClaim := { program := "ytcbpdhhipkdofaa", sum := "748dd1c9c52017585806e296b6e91c632f476b8bb13bfdd48564f86a251f5d09", func := "loop.example/g01180/laws.FnExactWeightsAt", spec := "fnExactWeightsAt", apart := false }
def FnExactWeightsAtSaid : Prop := fnExactWeightsAtRow.holds Try.pinned (OpenSpec.ofChange fnExactWeightsAtSpec)

/-- ITS FALSE NEIGHBOUR: 'it returns false'. Refute it at one input. -/
def fnExactWeightsAtWrong : ChangeSpec := { name := "fnExactWeightsAt", fn := fun _ => fun
  | [d1, d2] => { results := [.lit (.bool false)], args := [d1, d2] }
  | _ => none }
def FnExactWeightsAtWrongFalsely : Prop := fnExactWeightsAtRow.holds Try.pinned (OpenSpec.ofChange fnExactWeightsAtWrong)

/-- 'laws.FnExactPoseOfNumbers': WHATEVER THE INPUT: true; the input reads as it did. -/
def fnExactPoseOfNumbersSpec : ChangeSpec := { name := "fnExactPoseOfNumbers", fn := fun _ => fun
  | [d] => { results := [.lit (.bool true)], args := [d] }
  | _ => none }
def fnExactPoseOfNumbersRow : OpenClaim := { program := "ytcbpdhhipkdofaa", sum := "748dd1c9c52017585806e296b6e91c632f476b8bb13bfdd48564f86a251f5d09", func := "loop.example/g01180/laws.FnExactPoseOfNumbers", spec := "fnExactPoseOfNumbers", apart := false }
def FnExactPoseOfNumbersSaid : Prop := fnExactPoseOfNumbersRow.holds Try.pinned (OpenSpec.ofChange fnExactPoseOfNumbersSpec)

/-- ITS FALSE NEIGHBOUR: 'it returns false'. Refute it at one input. -/
def fnExactPoseOfNumbersWrong : ChangeSpec := { name := "fnExactPoseOfNumbers", fn := fun _ => fun
  | [d] => { results := [.lit (.bool false)], args := [d] }
  | _ => none }
def FnExactPoseOfNumbersWrongFalsely : Prop := fnExactPoseOfNumbersRow.holds Try.pinned (OpenSpec.ofChange fnExactPoseOfNumbersWrong)

/-- 'laws.FnExactValidString': WHATEVER THE INPUT: true; the input reads as it did. -/
def fnExactValidStringSpec : ChangeSpec := { name := "fnExactValidString", fn := fun _ => fun
  | [d] => { results := [.lit (.bool true)], args := [d] }
  | _ => none }
def fnExactValidStringRow : OpenClaim := { program := "ytcbpdhhipkdofaa", sum := "748dd1c9c52017585806e296b6e91c632f476b8bb13bfdd48564f86a251f5d09", func := "loop.example/g01180/laws.FnExactValidString", spec := "fnExactValidString", apart := false }
def FnExactValidStringSaid : Prop := fnExactValidStringRow.holds Try.pinned (OpenSpec.ofChange fnExactValidStringSpec)

/-- ITS FALSE NEIGHBOUR: 'it returns false'. Refute it at one input. -/
def fnExactValidStringWrong : ChangeSpec := { name := "fnExactValidString", fn := fun _ => fun
  | [d] => { results := [.lit (.bool false)], args := [d] }
  | _ => none }
def FnExactValidStringWrongFalsely : Prop := fnExactValidStringRow.holds Try.pinned (OpenSpec.ofChange fnExactValidStringWrong)

/-- 'laws.FnExactFarthestMove': WHATEVER THE INPUT: true; the input reads as it did. -/
def fnExactFarthestMoveSpec : ChangeSpec := { name := "fnExactFarthestMove", fn := fun _ => fun
  | [d1, d2] => { results := [.lit (.bool true)], args := [d1, d2] }
  | _ => none }
def fnExactFarthestMoveRow : OpenClaim := { program := "ytcbpdhhipkdofaa", sum := "748dd1c9c52017585806e296b6e91c632f476b8bb13bfdd48564f86a251f5d09", func := "loop.example/g01180/laws.FnExactFarthestMove", spec := "fnExactFarthestMove", inPlace := ["math.sqrt"], apart := false }
def FnExactFarthestMoveSaid : Prop := fnExactFarthestMoveRow.holds Try.pinned (OpenSpec.ofChange fnExactFarthestMoveSpec)

/-- ITS FALSE NEIGHBOUR: 'it returns false'. Refute it at one input. -/
def fnExactFarthestMoveWrong : ChangeSpec := { name := "fnExactFarthestMove", fn := fun _ => fun
  | [d1, d2] => { results := [.lit (.bool false)], args := [d1, d2] }
  | _ => none }
def FnExactFarthestMoveWrongFalsely : Prop := fnExactFarthestMoveRow.holds Try.pinned (OpenSpec.ofChange fnExactFarthestMoveWrong)

/-- 'laws.FnExactNumbersOfPose': WHATEVER THE INPUT: true; the input reads as it did. -/
def fnExactNumbersOfPoseSpec : ChangeSpec := { name := "fnExactNumbersOfPose", fn := fun _ => fun
  | [d] => { results := [.lit (.bool true)], args := [d] }
  | _ => none }
def fnExactNumbersOfPoseRow : OpenClaim := { program := "ytcbpdhhipkdofaa", sum := "748dd1c9c52017585806e296b6e91c632f476b8bb13bfdd48564f86a251f5d09", func := "loop.example/g01180/laws.FnExactNumbersOfPose", spec := "fnExactNumbersOfPose", apart := false }
def FnExactNumbersOfPoseSaid : Prop := fnExactNumbersOfPoseRow.holds Try.pinned (OpenSpec.ofChange fnExactNumbersOfPoseSpec)

/-- ITS FALSE NEIGHBOUR: 'it returns false'. Refute it at one input. -/
def fnExactNumbersOfPoseWrong : ChangeSpec := { name := "fnExactNumbersOfPose", fn := fun _ => fun
  | [d] => { results := [.lit (.bool false)], args := [d] }
  | _ => none }
def FnExactNumbersOfPoseWrongFalsely : Prop := fnExactNumbersOfPoseRow.holds Try.pinned (OpenSpec.ofChange fnExactNumbersOfPoseWrong)

/-- 'laws.FnExactValidRecording': WHATEVER THE INPUT: true; the input reads as it did. -/
def fnExactValidRecordingSpec : ChangeSpec := { name := "fnExactValidRecording", fn := fun _ => fun
  | [d] => { results := [.lit (.bool true)], args := [d] }
  | _ => none }
def fnExactValidRecordingRow : OpenClaim := { program := "ytcbpdhhipkdofaa", sum := "748dd1c9c52017585806e296b6e91c632f476b8bb13bfdd48564f86a251f5d09", func := "loop.example/g01180/laws.FnExactValidRecording", spec := "fnExactValidRecording", unfollowed := true, recurses := true, apart := false }
def FnExactValidRecordingSaid : Prop := fnExactValidRecordingRow.holds Try.pinned (OpenSpec.ofChange fnExactValidRecordingSpec)

/-- ITS FALSE NEIGHBOUR: 'it returns false'. Refute it at one input. -/
def fnExactValidRecordingWrong : ChangeSpec := { name := "fnExactValidRecording", fn := fun _ => fun
  | [d] => { results := [.lit (.bool false)], args := [d] }
  | _ => none }
def FnExactValidRecordingWrongFalsely : Prop := fnExactValidRecordingRow.holds Try.pinned (OpenSpec.ofChange fnExactValidRecordingWrong)

/-- 'laws.FnExactChangedNumbers': WHATEVER THE INPUT: true; the input reads as it did. -/
def fnExactChangedNumbersSpec : ChangeSpec := { name := "fnExactChangedNumbers", fn := fun _ => fun
  | [d1, d2] => { results := [.lit (.bool true)], args := [d1, d2] }
  | _ => none }
def fnExactChangedNumbersRow : OpenClaim := { program := "ytcbpdhhipkdofaa", sum := "748dd1c9c52017585806e296b6e91c632f476b8bb13bfdd48564f86a251f5d09", func := "loop.example/g01180/laws.FnExactChangedNumbers", spec := "fnExactChangedNumbers", inPlace := ["math.Float32bits", "math.Float64bits"], apart := false }
def FnExactChangedNumbersSaid : Prop := fnExactChangedNumbersRow.holds Try.pinned (OpenSpec.ofChange fnExactChangedNumbersSpec)

/-- ITS FALSE NEIGHBOUR: 'it returns false'. Refute it at one input. -/
def fnExactChangedNumbersWrong : ChangeSpec := { name := "fnExactChangedNumbers", fn := fun _ => fun
  | [d1, d2] => { results := [.lit (.bool false)], args := [d1, d2] }
  | _ => none }
def FnExactChangedNumbersWrongFalsely : Prop := fnExactChangedNumbersRow.holds Try.pinned (OpenSpec.ofChange fnExactChangedNumbersWrong)

/-- 'laws.FnExactEdgesOf': WHATEVER THE INPUT: true; the input reads as it did. -/
def fnExactEdgesOfSpec : ChangeSpec := { name := "fnExactEdgesOf", fn := fun _ => fun
  | [d1, d2] => { results := [.lit (.bool true)], args := [d1, d2] }
  | _ => none }
def fnExactEdgesOfRow : OpenClaim := { program := "ytcbpdhhipkdofaa", sum := "748dd1c9c52017585806e296b6e91c632f476b8bb13bfdd48564f86a251f5d09", func := "loop.example/g01180/laws.FnExactEdgesOf", spec := "fnExactEdgesOf", inPlace := ["math.sqrt"], unfollowed := true, recurses := true, apart := false }
def FnExactEdgesOfSaid : Prop := fnExactEdgesOfRow.holds Try.pinned (OpenSpec.ofChange fnExactEdgesOfSpec)

/-- ITS FALSE NEIGHBOUR: 'it returns false'. Refute it at one input. -/
def fnExactEdgesOfWrong : ChangeSpec := { name := "fnExactEdgesOf", fn := fun _ => fun
  | [d1, d2] => { results := [.lit (.bool false)], args := [d1, d2] }
  | _ => none }
def FnExactEdgesOfWrongFalsely : Prop := fnExactEdgesOfRow.holds Try.pinned (OpenSpec.ofChange fnExactEdgesOfWrong)

/-- 'laws.FnExactHangString': WHATEVER THE INPUT: true; the input reads as it did. -/
def fnExactHangStringSpec : ChangeSpec := { name := "fnExactHangString", fn := fun _ => fun
  | [d1, d2, d3] => { results := [.lit (.bool true)], args := [d1, d2, d3] }
  | _ => none }
def fnExactHangStringRow : OpenClaim := { program := "ytcbpdhhipkdofaa", sum := "748dd1c9c52017585806e296b6e91c632f476b8bb13bfdd48564f86a251f5d09", func := "loop.example/g01180/laws.FnExactHangString", spec := "fnExactHangString", apart := false }
def FnExactHangStringSaid : Prop := fnExactHangStringRow.holds Try.pinned (OpenSpec.ofChange fnExactHangStringSpec)

/-- ITS FALSE NEIGHBOUR: 'it returns false'. Refute it at one input. -/
def fnExactHangStringWrong : ChangeSpec := { name := "fnExactHangString", fn := fun _ => fun
  | [d1, d2, d3] => { results := [.lit (.bool false)], args := [d1, d2, d3] }
  | _ => none }
def FnExactHangStringWrongFalsely : Prop := fnExactHangStringRow.holds Try.pinned (OpenSpec.ofChange fnExactHangStringWrong)

/- THE SECOND FORM. 'bulk': how many values and letters a reading holds, each counted each time it is reached (what is shared counts as often as it is met; a slice's spare places count too). A statement '..UptoSaid' is the law's where the arguments, and the package variables that the reading takes, are together of bulk at most 1048576: NARROWER than '..Said'. Prove '..Said' where nothing that the law and all that it calls make is longer than what came in: it says more and counts as full. Else prove '..UptoSaid'. A law counts once. -/
mutual
def uptoBulk {H : Type} : DataW H → Nat
  | .lit (.string bytes) => bytes.length + 1
  | .lit _ => 1
  | .nil => 1
  | .ptr d => uptoBulk d + 1
  | .slice elems spare => uptoBulkAll elems + uptoBulkAll spare + 1
  | .agg parts => uptoBulkAll parts + 1
  | .iface _ d => uptoBulk d + 1
  | .map entries => uptoBulkEntries entries + 1
  | .held _ => 1
def uptoBulkAll {H : Type} : List (DataW H) → Nat
  | [] => 0
  | d :: r => uptoBulk d + uptoBulkAll r
def uptoBulkEntries {H : Type} : List (Lit × DataW H) → Nat
  | [] => 0
  | x :: r => uptoBulkEntry x + uptoBulkEntries r
def uptoBulkEntry {H : Type} : Lit × DataW H → Nat
  | (.string bytes, d) => bytes.length + uptoBulk d + 1
  | (_, d) => uptoBulk d + 1
 end
def uptoSmall : (H : Type) → List (DataW H) → Bool := fun _ ds => decide (uptoBulkAll ds ≤ 1048576)
def OpenSpec.upto (s : _root_.Go.ChangeSpec) : _root_.Go.OpenSpec := { _root_.Go.OpenSpec.ofChange s with cond := some uptoSmall }

/-- 'laws.FnExactIsScale', WHERE WHAT IT READS IS OF BULK AT MOST 1048576: true; the input reads as it did. -/
def fnExactIsScaleUptoRow : OpenClaim := { program := "ytcbpdhhipkdofaa", sum := "748dd1c9c52017585806e296b6e91c632f476b8bb13bfdd48564f86a251f5d09", func := "loop.example/g01180/laws.FnExactIsScale", spec := "fnExactIsScale", apart := false, narrowed := true }
def FnExactIsScaleUptoSaid : Prop := fnExactIsScaleUptoRow.holds Try.pinned (OpenSpec.upto fnExactIsScaleSpec)

/-- 'laws.FnExactMiddleOf', WHERE WHAT IT READS IS OF BULK AT MOST 1048576: true; the input reads as it did. -/
def fnExactMiddleOfUptoRow : OpenClaim := { program := "ytcbpdhhipkdofaa", sum := "748dd1c9c52017585806e296b6e91c632f476b8bb13bfdd48564f86a251f5d09", func := "loop.example/g01180/laws.FnExactMiddleOf", spec := "fnExactMiddleOf", apart := false, narrowed := true }
def FnExactMiddleOfUptoSaid : Prop := fnExactMiddleOfUptoRow.holds Try.pinned (OpenSpec.upto fnExactMiddleOfSpec)

/-- 'laws.FnExactPartsOfFrames', WHERE WHAT IT READS IS OF BULK AT MOST 1048576: true; the input reads as it did. -/
def fnExactPartsOfFramesUptoRow : OpenClaim := { program := "ytcbpdhhipkdofaa", sum := "748dd1c9c52017585806e296b6e91c632f476b8bb13bfdd48564f86a251f5d09", func := "loop.example/g01180/laws.FnExactPartsOfFrames", spec := "fnExactPartsOfFrames", apart := false, narrowed := true }
def FnExactPartsOfFramesUptoSaid : Prop := fnExactPartsOfFramesUptoRow.holds Try.pinned (OpenSpec.upto fnExactPartsOfFramesSpec)

/-- 'laws.FnExactWeightsAt', WHERE WHAT IT READS IS OF BULK AT MOST 1048576: true; the input reads as it did. -/
def fnExactWeightsAtUptoRow : OpenClaim := { program := "ytcbpdhhipkdofaa", sum := "748dd1c9c52017585806e296b6e91c632f476b8bb13bfdd48564f86a251f5d09", func := "loop.example/g01180/laws.FnExactWeightsAt", spec := "fnExactWeightsAt", apart := false, narrowed := true }
def FnExactWeightsAtUptoSaid : Prop := fnExactWeightsAtUptoRow.holds Try.pinned (OpenSpec.upto fnExactWeightsAtSpec)

/-- 'laws.FnExactPoseOfNumbers', WHERE WHAT IT READS IS OF BULK AT MOST 1048576: true; the input reads as it did. -/
def fnExactPoseOfNumbersUptoRow : OpenClaim := { program := "ytcbpdhhipkdofaa", sum := "748dd1c9c52017585806e296b6e91c632f476b8bb13bfdd48564f86a251f5d09", func := "loop.example/g01180/laws.FnExactPoseOfNumbers", spec := "fnExactPoseOfNumbers", apart := false, narrowed := true }
def FnExactPoseOfNumbersUptoSaid : Prop := fnExactPoseOfNumbersUptoRow.holds Try.pinned (OpenSpec.upto fnExactPoseOfNumbersSpec)

/-- 'laws.FnExactValidString', WHERE WHAT IT READS IS OF BULK AT MOST 1048576: true; the input reads as it did. -/
def fnExactValidStringUptoRow : OpenClaim := { program := "ytcbpdhhipkdofaa", sum := "748dd1c9c52017585806e296b6e91c632f476b8bb13bfdd48564f86a251f5d09", func := "loop.example/g01180/laws.FnExactValidString", spec := "fnExactValidString", apart := false, narrowed := true }
def FnExactValidStringUptoSaid : Prop := fnExactValidStringUptoRow.holds Try.pinned (OpenSpec.upto fnExactValidStringSpec)

/-- 'laws.FnExactFarthestMove', WHERE WHAT IT READS IS OF BULK AT MOST 1048576: true; the input reads as it did. -/
def fnExactFarthestMoveUptoRow : OpenClaim := { program := "ytcbpdhhipkdofaa", sum := "748dd1c9c52017585806e296b6e91c632f476b8bb13bfdd48564f86a251f5d09", func := "loop.example/g01180/laws.FnExactFarthestMove", spec := "fnExactFarthestMove", inPlace := ["math.sqrt"], apart := false, narrowed := true }
def FnExactFarthestMoveUptoSaid : Prop := fnExactFarthestMoveUptoRow.holds Try.pinned (OpenSpec.upto fnExactFarthestMoveSpec)

/-- 'laws.FnExactNumbersOfPose', WHERE WHAT IT READS IS OF BULK AT MOST 1048576: true; the input reads as it did. -/
def fnExactNumbersOfPoseUptoRow : OpenClaim := { program := "ytcbpdhhipkdofaa", sum := "748dd1c9c52017585806e296b6e91c632f476b8bb13bfdd48564f86a251f5d09", func := "loop.example/g01180/laws.FnExactNumbersOfPose", spec := "fnExactNumbersOfPose", apart := false, narrowed := true }
def FnExactNumbersOfPoseUptoSaid : Prop := fnExactNumbersOfPoseUptoRow.holds Try.pinned (OpenSpec.upto fnExactNumbersOfPoseSpec)

/-- 'laws.FnExactValidRecording', WHERE WHAT IT READS IS OF BULK AT MOST 1048576: true; the input reads as it did. -/
def fnExactValidRecordingUptoRow : OpenClaim := { program := "ytcbpdhhipkdofaa", sum := "748dd1c9c52017585806e296b6e91c632f476b8bb13bfdd48564f86a251f5d09", func := "loop.example/g01180/laws.FnExactValidRecording", spec := "fnExactValidRecording", unfollowed := true, recurses := true, apart := false, narrowed := true }
def FnExactValidRecordingUptoSaid : Prop := fnExactValidRecordingUptoRow.holds Try.pinned (OpenSpec.upto fnExactValidRecordingSpec)

/-- 'laws.FnExactChangedNumbers', WHERE WHAT IT READS IS OF BULK AT MOST 1048576: true; the input reads as it did. -/
def fnExactChangedNumbersUptoRow : OpenClaim := { program := "ytcbpdhhipkdofaa", sum := "748dd1c9c52017585806e296b6e91c632f476b8bb13bfdd48564f86a251f5d09", func := "loop.example/g01180/laws.FnExactChangedNumbers", spec := "fnExactChangedNumbers", inPlace := ["math.Float32bits", "math.Float64bits"], apart := false, narrowed := true }
def FnExactChangedNumbersUptoSaid : Prop := fnExactChangedNumbersUptoRow.holds Try.pinned (OpenSpec.upto fnExactChangedNumbersSpec)

/-- 'laws.FnExactEdgesOf', WHERE WHAT IT READS IS OF BULK AT MOST 1048576: true; the input reads as it did. -/
def fnExactEdgesOfUptoRow : OpenClaim := { program := "ytcbpdhhipkdofaa", sum := "748dd1c9c52017585806e296b6e91c632f476b8bb13bfdd48564f86a251f5d09", func := "loop.example/g01180/laws.FnExactEdgesOf", spec := "fnExactEdgesOf", inPlace := ["math.sqrt"], unfollowed := true, recurses := true, apart := false, narrowed := true }
def FnExactEdgesOfUptoSaid : Prop := fnExactEdgesOfUptoRow.holds Try.pinned (OpenSpec.upto fnExactEdgesOfSpec)

/-- 'laws.FnExactHangString', WHERE WHAT IT READS IS OF BULK AT MOST 1048576: true; the input reads as it did. -/
def fnExactHangStringUptoRow : OpenClaim := { program := "ytcbpdhhipkdofaa", sum := "748dd1c9c52017585806e296b6e91c632f476b8bb13bfdd48564f86a251f5d09", func := "loop.example/g01180/laws.FnExactHangString", spec := "fnExactHangString", apart := false, narrowed := true }
def FnExactHangStringUptoSaid : Prop := fnExactHangStringUptoRow.holds Try.pinned (OpenSpec.upto fnExactHangStringSpec)

end Rows
end Go.Proofs.Ytcbpdhhipkdofaa
