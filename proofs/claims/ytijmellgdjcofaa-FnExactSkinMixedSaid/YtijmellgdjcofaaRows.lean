/-
  No cell of these rows narrows 'for every input' (looked for: loops, veiled, ifaces, maps, wideKeys, modest, calm, conditions, laid).
  DERIVED. THE GIVEN ROWS OF THIS SEAT. 10 by the template 'for every input the law returns true; each argument reads behind the call as it read before'; 0 by the template 'total and deterministic' (their statements: YtijmellgdjcofaaTotals.lean).
  GIVEN WITH THE SEED: the statements are not yours to turn. If you find one false, say at which input.
  Laid BY PROGRAM, IN A SANDBOX (cutbox-rows.mjs): the forced cells as the released guide's own fill.sh prints them over the translation b1ffb3ced640c3cc… (all of the seat's roots in one cut). By AI agents, Wed Nov 11 2026. No macro, syntax, notation, axiom, sorry.
-/
import Derived.Test.YtijmellgdjcofaaChecked
import GoSem.Claim
import GoSem.ClaimJoined
import GoSem.ClaimMapViews
import Derived.JoinedTies
import Derived.KernelRfl
namespace Go.Proofs.Ytijmellgdjcofaa
/- THE CELL 'sum', in the pinned program and in every row, IS THE sha256 OF THE DUMP (.gsa) THAT YtijmellgdjcofaaProg.lean LOADS. Nothing in Lean hashes anything: it is a label: what it is worth is what the hold of that sum in a sandbox is worth. -/
noncomputable def Try.pinned : Pinned := { name := "ytijmellgdjcofaa", sum := "b1ffb3ced640c3ccea389a7ecf3febc4a606d7207f0d27281add584ebc7ab749", checked := Try.checked }
namespace Rows
def none {H : Type} : Left H := { results := [], args := [] }

/-- 'laws.FnExactSameRecording': WHATEVER THE INPUT: true; the input reads as it did. -/
def fnExactSameRecordingSpec : ChangeSpec := { name := "fnExactSameRecording", fn := fun _ => fun
  | [d1, d2] => { results := [.lit (.bool true)], args := [d1, d2] }
  | _ => none }
def fnExactSameRecordingRow : OpenClaim := { program := "ytijmellgdjcofaa", sum := "b1ffb3ced640c3ccea389a7ecf3febc4a606d7207f0d27281add584ebc7ab749", func := "loop.example/g01180/laws.FnExactSameRecording", spec := "fnExactSameRecording", inPlace := ["math.Float32bits", "math.Float64bits"], unfollowed := true, recurses := true, apart := false }
def FnExactSameRecordingSaid : Prop := fnExactSameRecordingRow.holds Try.pinned (OpenSpec.ofChange fnExactSameRecordingSpec)

/-- ITS FALSE NEIGHBOUR: 'it returns false'. Refute it at one input. -/
def fnExactSameRecordingWrong : ChangeSpec := { name := "fnExactSameRecording", fn := fun _ => fun
  | [d1, d2] => { results := [.lit (.bool false)], args := [d1, d2] }
  | _ => none }
def FnExactSameRecordingWrongFalsely : Prop := fnExactSameRecordingRow.holds Try.pinned (OpenSpec.ofChange fnExactSameRecordingWrong)

/-- 'laws.FnExactSameString': WHATEVER THE INPUT: true; the input reads as it did. -/
def fnExactSameStringSpec : ChangeSpec := { name := "fnExactSameString", fn := fun _ => fun
  | [d1, d2] => { results := [.lit (.bool true)], args := [d1, d2] }
  | _ => none }
def fnExactSameStringRow : OpenClaim := { program := "ytijmellgdjcofaa", sum := "b1ffb3ced640c3ccea389a7ecf3febc4a606d7207f0d27281add584ebc7ab749", func := "loop.example/g01180/laws.FnExactSameString", spec := "fnExactSameString", inPlace := ["math.Float32bits", "math.Float64bits"], unfollowed := true, recurses := true, apart := false }
def FnExactSameStringSaid : Prop := fnExactSameStringRow.holds Try.pinned (OpenSpec.ofChange fnExactSameStringSpec)

/-- ITS FALSE NEIGHBOUR: 'it returns false'. Refute it at one input. -/
def fnExactSameStringWrong : ChangeSpec := { name := "fnExactSameString", fn := fun _ => fun
  | [d1, d2] => { results := [.lit (.bool false)], args := [d1, d2] }
  | _ => none }
def FnExactSameStringWrongFalsely : Prop := fnExactSameStringRow.holds Try.pinned (OpenSpec.ofChange fnExactSameStringWrong)

/-- 'laws.FnExactIsSkin': WHATEVER THE INPUT: true; the input reads as it did. -/
def fnExactIsSkinSpec : ChangeSpec := { name := "fnExactIsSkin", fn := fun _ => fun
  | [d1, d2] => { results := [.lit (.bool true)], args := [d1, d2] }
  | _ => none }
def fnExactIsSkinRow : OpenClaim := { program := "ytijmellgdjcofaa", sum := "b1ffb3ced640c3ccea389a7ecf3febc4a606d7207f0d27281add584ebc7ab749", func := "loop.example/g01180/laws.FnExactIsSkin", spec := "fnExactIsSkin", apart := false }
def FnExactIsSkinSaid : Prop := fnExactIsSkinRow.holds Try.pinned (OpenSpec.ofChange fnExactIsSkinSpec)

/-- ITS FALSE NEIGHBOUR: 'it returns false'. Refute it at one input. -/
def fnExactIsSkinWrong : ChangeSpec := { name := "fnExactIsSkin", fn := fun _ => fun
  | [d1, d2] => { results := [.lit (.bool false)], args := [d1, d2] }
  | _ => none }
def FnExactIsSkinWrongFalsely : Prop := fnExactIsSkinRow.holds Try.pinned (OpenSpec.ofChange fnExactIsSkinWrong)

/-- 'laws.FnExactEvenWeights': WHATEVER THE INPUT: true; the input reads as it did. -/
def fnExactEvenWeightsSpec : ChangeSpec := { name := "fnExactEvenWeights", fn := fun _ => fun
  | [d] => { results := [.lit (.bool true)], args := [d] }
  | _ => none }
def fnExactEvenWeightsRow : OpenClaim := { program := "ytijmellgdjcofaa", sum := "b1ffb3ced640c3ccea389a7ecf3febc4a606d7207f0d27281add584ebc7ab749", func := "loop.example/g01180/laws.FnExactEvenWeights", spec := "fnExactEvenWeights", unfollowed := true, recurses := true, apart := false }
def FnExactEvenWeightsSaid : Prop := fnExactEvenWeightsRow.holds Try.pinned (OpenSpec.ofChange fnExactEvenWeightsSpec)

/-- ITS FALSE NEIGHBOUR: 'it returns false'. Refute it at one input. -/
def fnExactEvenWeightsWrong : ChangeSpec := { name := "fnExactEvenWeights", fn := fun _ => fun
  | [d] => { results := [.lit (.bool false)], args := [d] }
  | _ => none }
def FnExactEvenWeightsWrongFalsely : Prop := fnExactEvenWeightsRow.holds Try.pinned (OpenSpec.ofChange fnExactEvenWeightsWrong)

/-- 'laws.FnExactStretchOf': WHATEVER THE INPUT: true; the input reads as it did. -/
def fnExactStretchOfSpec : ChangeSpec := { name := "fnExactStretchOf", fn := fun _ => fun
  | [d] => { results := [.lit (.bool true)], args := [d] }
  | _ => none }
def fnExactStretchOfRow : OpenClaim := { program := "ytijmellgdjcofaa", sum := "b1ffb3ced640c3ccea389a7ecf3febc4a606d7207f0d27281add584ebc7ab749", func := "loop.example/g01180/laws.FnExactStretchOf", spec := "fnExactStretchOf", inPlace := ["math.sqrt", "math.Float32bits", "math.Float32frombits", "math.Float64bits", "math.Float64frombits"], apart := false }
def FnExactStretchOfSaid : Prop := fnExactStretchOfRow.holds Try.pinned (OpenSpec.ofChange fnExactStretchOfSpec)

/-- ITS FALSE NEIGHBOUR: 'it returns false'. Refute it at one input. -/
def fnExactStretchOfWrong : ChangeSpec := { name := "fnExactStretchOf", fn := fun _ => fun
  | [d] => { results := [.lit (.bool false)], args := [d] }
  | _ => none }
def FnExactStretchOfWrongFalsely : Prop := fnExactStretchOfRow.holds Try.pinned (OpenSpec.ofChange fnExactStretchOfWrong)

/-- 'laws.FnExactMovesOf': WHATEVER THE INPUT: true; the input reads as it did. -/
def fnExactMovesOfSpec : ChangeSpec := { name := "fnExactMovesOf", fn := fun _ => fun
  | [d1, d2, d3] => { results := [.lit (.bool true)], args := [d1, d2, d3] }
  | _ => none }
def fnExactMovesOfRow : OpenClaim := { program := "ytijmellgdjcofaa", sum := "b1ffb3ced640c3ccea389a7ecf3febc4a606d7207f0d27281add584ebc7ab749", func := "loop.example/g01180/laws.FnExactMovesOf", spec := "fnExactMovesOf", apart := false }
def FnExactMovesOfSaid : Prop := fnExactMovesOfRow.holds Try.pinned (OpenSpec.ofChange fnExactMovesOfSpec)

/-- ITS FALSE NEIGHBOUR: 'it returns false'. Refute it at one input. -/
def fnExactMovesOfWrong : ChangeSpec := { name := "fnExactMovesOf", fn := fun _ => fun
  | [d1, d2, d3] => { results := [.lit (.bool false)], args := [d1, d2, d3] }
  | _ => none }
def FnExactMovesOfWrongFalsely : Prop := fnExactMovesOfRow.holds Try.pinned (OpenSpec.ofChange fnExactMovesOfWrong)

/-- 'laws.FnExactAssignSkin': WHATEVER THE INPUT: true; the input reads as it did. -/
def fnExactAssignSkinSpec : ChangeSpec := { name := "fnExactAssignSkin", fn := fun _ => fun
  | [d1, d2, d3] => { results := [.lit (.bool true)], args := [d1, d2, d3] }
  | _ => none }
def fnExactAssignSkinRow : OpenClaim := { program := "ytijmellgdjcofaa", sum := "b1ffb3ced640c3ccea389a7ecf3febc4a606d7207f0d27281add584ebc7ab749", func := "loop.example/g01180/laws.FnExactAssignSkin", spec := "fnExactAssignSkin", inPlace := ["math.sqrt"], apart := false }
def FnExactAssignSkinSaid : Prop := fnExactAssignSkinRow.holds Try.pinned (OpenSpec.ofChange fnExactAssignSkinSpec)

/-- ITS FALSE NEIGHBOUR: 'it returns false'. Refute it at one input. -/
def fnExactAssignSkinWrong : ChangeSpec := { name := "fnExactAssignSkin", fn := fun _ => fun
  | [d1, d2, d3] => { results := [.lit (.bool false)], args := [d1, d2, d3] }
  | _ => none }
def FnExactAssignSkinWrongFalsely : Prop := fnExactAssignSkinRow.holds Try.pinned (OpenSpec.ofChange fnExactAssignSkinWrong)

/-- 'laws.FnExactSkinLinear': WHATEVER THE INPUT: true; the input reads as it did. -/
def fnExactSkinLinearSpec : ChangeSpec := { name := "fnExactSkinLinear", fn := fun _ => fun
  | [d1, d2, d3, d4] => { results := [.lit (.bool true)], args := [d1, d2, d3, d4] }
  | _ => none }
def fnExactSkinLinearRow : OpenClaim := { program := "ytijmellgdjcofaa", sum := "b1ffb3ced640c3ccea389a7ecf3febc4a606d7207f0d27281add584ebc7ab749", func := "loop.example/g01180/laws.FnExactSkinLinear", spec := "fnExactSkinLinear", apart := false }
def FnExactSkinLinearSaid : Prop := fnExactSkinLinearRow.holds Try.pinned (OpenSpec.ofChange fnExactSkinLinearSpec)

/-- ITS FALSE NEIGHBOUR: 'it returns false'. Refute it at one input. -/
def fnExactSkinLinearWrong : ChangeSpec := { name := "fnExactSkinLinear", fn := fun _ => fun
  | [d1, d2, d3, d4] => { results := [.lit (.bool false)], args := [d1, d2, d3, d4] }
  | _ => none }
def FnExactSkinLinearWrongFalsely : Prop := fnExactSkinLinearRow.holds Try.pinned (OpenSpec.ofChange fnExactSkinLinearWrong)

/-- 'laws.FnExactSkinMixed': WHATEVER THE INPUT: true; the input reads as it did. -/
def fnExactSkinMixedSpec : ChangeSpec := { name := "fnExactSkinMixed", fn := fun _ => fun
  | [d1, d2, d3, d4] => { results := [.lit (.bool true)], args := [d1, d2, d3, d4] }
  | _ => none }
def fnExactSkinMixedRow : OpenClaim := { program := "ytijmellgdjcofaa", sum := "b1ffb3ced640c3ccea389a7ecf3febc4a606d7207f0d27281add584ebc7ab749", func := "loop.example/g01180/laws.FnExactSkinMixed", spec := "fnExactSkinMixed", inPlace := ["math.sqrt"], apart := false }
def FnExactSkinMixedSaid : Prop := fnExactSkinMixedRow.holds Try.pinned (OpenSpec.ofChange fnExactSkinMixedSpec)

/-- ITS FALSE NEIGHBOUR: 'it returns false'. Refute it at one input. -/
def fnExactSkinMixedWrong : ChangeSpec := { name := "fnExactSkinMixed", fn := fun _ => fun
  | [d1, d2, d3, d4] => { results := [.lit (.bool false)], args := [d1, d2, d3, d4] }
  | _ => none }
def FnExactSkinMixedWrongFalsely : Prop := fnExactSkinMixedRow.holds Try.pinned (OpenSpec.ofChange fnExactSkinMixedWrong)

/-- 'laws.FnExactUsedBones': WHATEVER THE INPUT: true; the input reads as it did. -/
def fnExactUsedBonesSpec : ChangeSpec := { name := "fnExactUsedBones", fn := fun _ => fun
  | [d1, d2] => { results := [.lit (.bool true)], args := [d1, d2] }
  | _ => none }
def fnExactUsedBonesRow : OpenClaim := { program := "ytijmellgdjcofaa", sum := "b1ffb3ced640c3ccea389a7ecf3febc4a606d7207f0d27281add584ebc7ab749", func := "loop.example/g01180/laws.FnExactUsedBones", spec := "fnExactUsedBones", recurses := true, apart := false }
def FnExactUsedBonesSaid : Prop := fnExactUsedBonesRow.holds Try.pinned (OpenSpec.ofChange fnExactUsedBonesSpec)

/-- ITS FALSE NEIGHBOUR: 'it returns false'. Refute it at one input. -/
def fnExactUsedBonesWrong : ChangeSpec := { name := "fnExactUsedBones", fn := fun _ => fun
  | [d1, d2] => { results := [.lit (.bool false)], args := [d1, d2] }
  | _ => none }
def FnExactUsedBonesWrongFalsely : Prop := fnExactUsedBonesRow.holds Try.pinned (OpenSpec.ofChange fnExactUsedBonesWrong)

/- THE SECOND FORM. 'bulk': how many values and letters a reading holds, each counted each time it is reached (what is shared counts as often as it is met; a slice's spare places count too). A statement '..UptoSaid' is the law's where the arguments, and the package variables that the reading takes, are together of bulk at most 1048576: NARROWER than '..Said'. Prove '..Said' where nothing that the law and all that it calls make is longer than what came in: it says more and counts as full. Else prove '..UptoSaid'. A law counts once. -/
mutual
def uptoBulk {H : Type} : DataW H → Nat
  | .lit (.string bytes) => bytes.length + 1
  | .lit _ => 1
  | .nil => 1
  | .ptr d => uptoBulk d + 1
  | .slice elems spare => uptoBulkAll elems + uptoBulkAll spare + 1
  | .agg parts => uptoBulkAll parts + 1
  | .iface _ d => uptoBulk d + 1
  | .map entries => uptoBulkEntries entries + 1
  | .held _ => 1
def uptoBulkAll {H : Type} : List (DataW H) → Nat
  | [] => 0
  | d :: r => uptoBulk d + uptoBulkAll r
def uptoBulkEntries {H : Type} : List (Lit × DataW H) → Nat
  | [] => 0
  | x :: r => uptoBulkEntry x + uptoBulkEntries r
def uptoBulkEntry {H : Type} : Lit × DataW H → Nat
  | (.string bytes, d) => bytes.length + uptoBulk d + 1
  | (_, d) => uptoBulk d + 1
 end
def uptoSmall : (H : Type) → List (DataW H) → Bool := fun _ ds => decide (uptoBulkAll ds ≤ 1048576)
def OpenSpec.upto (s : _root_.Go.ChangeSpec) : _root_.Go.OpenSpec := { _root_.Go.OpenSpec.ofChange s with cond := some uptoSmall }

/-- 'laws.FnExactSameRecording', WHERE WHAT IT READS IS OF BULK AT MOST 1048576: true; the input reads as it did. -/
def fnExactSameRecordingUptoRow : OpenClaim := { program := "ytijmellgdjcofaa", sum := "b1ffb3ced640c3ccea389a7ecf3febc4a606d7207f0d27281add584ebc7ab749", func := "loop.example/g01180/laws.FnExactSameRecording", spec := "fnExactSameRecording", inPlace := ["math.Float32bits", "math.Float64bits"], unfollowed := true, recurses := true, apart := false, narrowed := true }
def FnExactSameRecordingUptoSaid : Prop := fnExactSameRecordingUptoRow.holds Try.pinned (OpenSpec.upto fnExactSameRecordingSpec)

/-- 'laws.FnExactSameString', WHERE WHAT IT READS IS OF BULK AT MOST 1048576: true; the input reads as it did. -/
def fnExactSameStringUptoRow : OpenClaim := { program := "ytijmellgdjcofaa", sum := "b1ffb3ced640c3ccea389a7ecf3febc4a606d7207f0d27281add584ebc7ab749", func := "loop.example/g01180/laws.FnExactSameString", spec := "fnExactSameString", inPlace := ["math.Float32bits", "math.Float64bits"], unfollowed := true, recurses := true, apart := false, narrowed := true }
def FnExactSameStringUptoSaid : Prop := fnExactSameStringUptoRow.holds Try.pinned (OpenSpec.upto fnExactSameStringSpec)

/-- 'laws.FnExactIsSkin', WHERE WHAT IT READS IS OF BULK AT MOST 1048576: true; the input reads as it did. -/
def fnExactIsSkinUptoRow : OpenClaim := { program := "ytijmellgdjcofaa", sum := "b1ffb3ced640c3ccea389a7ecf3febc4a606d7207f0d27281add584ebc7ab749", func := "loop.example/g01180/laws.FnExactIsSkin", spec := "fnExactIsSkin", apart := false, narrowed := true }
def FnExactIsSkinUptoSaid : Prop := fnExactIsSkinUptoRow.holds Try.pinned (OpenSpec.upto fnExactIsSkinSpec)

/-- 'laws.FnExactEvenWeights', WHERE WHAT IT READS IS OF BULK AT MOST 1048576: true; the input reads as it did. -/
def fnExactEvenWeightsUptoRow : OpenClaim := { program := "ytijmellgdjcofaa", sum := "b1ffb3ced640c3ccea389a7ecf3febc4a606d7207f0d27281add584ebc7ab749", func := "loop.example/g01180/laws.FnExactEvenWeights", spec := "fnExactEvenWeights", unfollowed := true, recurses := true, apart := false, narrowed := true }
def FnExactEvenWeightsUptoSaid : Prop := fnExactEvenWeightsUptoRow.holds Try.pinned (OpenSpec.upto fnExactEvenWeightsSpec)

/-- 'laws.FnExactStretchOf', WHERE WHAT IT READS IS OF BULK AT MOST 1048576: true; the input reads as it did. -/
def fnExactStretchOfUptoRow : OpenClaim := { program := "ytijmellgdjcofaa", sum := "b1ffb3ced640c3ccea389a7ecf3febc4a606d7207f0d27281add584ebc7ab749", func := "loop.example/g01180/laws.FnExactStretchOf", spec := "fnExactStretchOf", inPlace := ["math.sqrt", "math.Float32bits", "math.Float32frombits", "math.Float64bits", "math.Float64frombits"], apart := false, narrowed := true }
def FnExactStretchOfUptoSaid : Prop := fnExactStretchOfUptoRow.holds Try.pinned (OpenSpec.upto fnExactStretchOfSpec)

/-- 'laws.FnExactMovesOf', WHERE WHAT IT READS IS OF BULK AT MOST 1048576: true; the input reads as it did. -/
def fnExactMovesOfUptoRow : OpenClaim := { program := "ytijmellgdjcofaa", sum := "b1ffb3ced640c3ccea389a7ecf3febc4a606d7207f0d27281add584ebc7ab749", func := "loop.example/g01180/laws.FnExactMovesOf", spec := "fnExactMovesOf", apart := false, narrowed := true }
def FnExactMovesOfUptoSaid : Prop := fnExactMovesOfUptoRow.holds Try.pinned (OpenSpec.upto fnExactMovesOfSpec)

/-- 'laws.FnExactAssignSkin', WHERE WHAT IT READS IS OF BULK AT MOST 1048576: true; the input reads as it did. -/
def fnExactAssignSkinUptoRow : OpenClaim := { program := "ytijmellgdjcofaa", sum := "b1ffb3ced640c3ccea389a7ecf3febc4a606d7207f0d27281add584ebc7ab749", func := "loop.example/g01180/laws.FnExactAssignSkin", spec := "fnExactAssignSkin", inPlace := ["math.sqrt"], apart := false, narrowed := true }
def FnExactAssignSkinUptoSaid : Prop := fnExactAssignSkinUptoRow.holds Try.pinned (OpenSpec.upto fnExactAssignSkinSpec)

/-- 'laws.FnExactSkinLinear', WHERE WHAT IT READS IS OF BULK AT MOST 1048576: true; the input reads as it did. -/
def fnExactSkinLinearUptoRow : OpenClaim := { program := "ytijmellgdjcofaa", sum := "b1ffb3ced640c3ccea389a7ecf3febc4a606d7207f0d27281add584ebc7ab749", func := "loop.example/g01180/laws.FnExactSkinLinear", spec := "fnExactSkinLinear", apart := false, narrowed := true }
def FnExactSkinLinearUptoSaid : Prop := fnExactSkinLinearUptoRow.holds Try.pinned (OpenSpec.upto fnExactSkinLinearSpec)

/-- 'laws.FnExactSkinMixed', WHERE WHAT IT READS IS OF BULK AT MOST 1048576: true; the input reads as it did. -/
def fnExactSkinMixedUptoRow : OpenClaim := { program := "ytijmellgdjcofaa", sum := "b1ffb3ced640c3ccea389a7ecf3febc4a606d7207f0d27281add584ebc7ab749", func := "loop.example/g01180/laws.FnExactSkinMixed", spec := "fnExactSkinMixed", inPlace := ["math.sqrt"], apart := false, narrowed := true }
def FnExactSkinMixedUptoSaid : Prop := fnExactSkinMixedUptoRow.holds Try.pinned (OpenSpec.upto fnExactSkinMixedSpec)

/-- 'laws.FnExactUsedBones', WHERE WHAT IT READS IS OF BULK AT MOST 1048576: true; the input reads as it did. -/
def fnExactUsedBonesUptoRow : OpenClaim := { program := "ytijmellgdjcofaa", sum := "b1ffb3ced640c3ccea389a7ecf3febc4a606d7207f0d27281add584ebc7ab749", func := "loop.example/g01180/laws.FnExactUsedBones", spec := "fnExactUsedBones", recurses := true, apart := false, narrowed := true }
def FnExactUsedBonesUptoSaid : Prop := fnExactUsedBonesUptoRow.holds Try.pinned (OpenSpec.upto fnExactUsedBonesSpec)

end Rows
end Go.Proofs.Ytijmellgdjcofaa
