/-
  No cell of these rows narrows 'for every input' (looked for: loops, veiled, ifaces, maps, wideKeys, modest, calm, conditions, laid).
  DERIVED. THE GIVEN ROWS OF THIS SEAT. 2 by the template 'for every input the law returns true; each argument reads behind the call as it read before'; 0 by the template 'total and deterministic' (their statements: YtmfmdoppjcaedaaTotals.lean).
  GIVEN WITH THE SEED: the statements are not yours to turn. If you find one false, say at which input.
  Laid BY PROGRAM, IN A SANDBOX (cutbox-rows.mjs): the forced cells as the released guide's own fill.sh prints them over the translation 0474ee133f8ba64b… (all of the seat's roots in one cut). By AI agents, Wed Nov 11 2026. No macro, syntax, notation, axiom, sorry.
-/
import Derived.Test.YtmfmdoppjcaedaaChecked
import GoSem.Claim
import GoSem.ClaimJoined
import GoSem.ClaimMapViews
import Derived.JoinedTies
import Derived.KernelRfl
namespace Go.Proofs.Ytmfmdoppjcaedaa
/- THE CELL 'sum', in the pinned program and in every row, IS THE sha256 OF THE DUMP (.gsa) THAT YtmfmdoppjcaedaaProg.lean LOADS. Nothing in Lean hashes anything: it is a label: what it is worth is what the hold of that sum in a sandbox is worth. -/
noncomputable def Try.pinned : Pinned := { name := "ytmfmdoppjcaedaa", sum := "0474ee133f8ba64bac5e08c73962ef3395669ed71fa9d5fb23f1d3b5d18d8407", checked := Try.checked }
namespace Rows
def none {H : Type} : Left H := { results := [], args := [] }

/-- 'laws.FnExactUnpackPoses': WHATEVER THE INPUT: true; the input reads as it did. -/
def fnExactUnpackPosesSpec : ChangeSpec := { name := "fnExactUnpackPoses", fn := fun _ => fun
  | [d1, d2, d3] => { results := [.lit (.bool true)], args := [d1, d2, d3] }
  | _ => none }
def fnExactUnpackPosesRow : OpenClaim := { program := "ytmfmdoppjcaedaa", sum := "0474ee133f8ba64bac5e08c73962ef3395669ed71fa9d5fb23f1d3b5d18d8407", func := "loop.example/g01180/laws.FnExactUnpackPoses", spec := "fnExactUnpackPoses", inPlace := ["math.sqrt"], apart := false }
def FnExactUnpackPosesSaid : Prop := fnExactUnpackPosesRow.holds Try.pinned (OpenSpec.ofChange fnExactUnpackPosesSpec)

/-- ITS FALSE NEIGHBOUR: 'it returns false'. Refute it at one input. -/
def fnExactUnpackPosesWrong : ChangeSpec := { name := "fnExactUnpackPoses", fn := fun _ => fun
  | [d1, d2, d3] => { results := [.lit (.bool false)], args := [d1, d2, d3] }
  | _ => none }
def FnExactUnpackPosesWrongFalsely : Prop := fnExactUnpackPosesRow.holds Try.pinned (OpenSpec.ofChange fnExactUnpackPosesWrong)

/-- 'laws.FnExactUsedBones': WHATEVER THE INPUT: true; the input reads as it did. -/
def fnExactUsedBonesSpec : ChangeSpec := { name := "fnExactUsedBones", fn := fun _ => fun
  | [d1, d2] => { results := [.lit (.bool true)], args := [d1, d2] }
  | _ => none }
def fnExactUsedBonesRow : OpenClaim := { program := "ytmfmdoppjcaedaa", sum := "0474ee133f8ba64bac5e08c73962ef3395669ed71fa9d5fb23f1d3b5d18d8407", func := "loop.example/g01180/laws.FnExactUsedBones", spec := "fnExactUsedBones", recurses := true, apart := false }
def FnExactUsedBonesSaid : Prop := fnExactUsedBonesRow.holds Try.pinned (OpenSpec.ofChange fnExactUsedBonesSpec)

/-- ITS FALSE NEIGHBOUR: 'it returns false'. Refute it at one input. -/
def fnExactUsedBonesWrong : ChangeSpec := { name := "fnExactUsedBones", fn := fun _ => fun
  | [d1, d2] => { results := [.lit (.bool false)], args := [d1, d2] }
  | _ => none }
def FnExactUsedBonesWrongFalsely : Prop := fnExactUsedBonesRow.holds Try.pinned (OpenSpec.ofChange fnExactUsedBonesWrong)

/- THE SECOND FORM. 'bulk': how many values and letters a reading holds, each counted each time it is reached (what is shared counts as often as it is met; a slice's spare places count too). A statement '..UptoSaid' is the law's where the arguments, and the package variables that the reading takes, are together of bulk at most 1048576: NARROWER than '..Said'. Prove '..Said' where nothing that the law and all that it calls make is longer than what came in: it says more and counts as full. Else prove '..UptoSaid'. A law counts once. -/
mutual
def uptoBulk {H : Type} : DataW H → Nat
  | .lit (.string bytes) => bytes.length + 1
  | .lit _ => 1
  | .nil => 1
  | .ptr d => uptoBulk d + 1
  | .slice elems spare => uptoBulkAll elems + uptoBulkAll spare + 1
  | .agg parts => uptoBulkAll parts + 1
  | .iface _ d => uptoBulk d + 1
  | .map entries => uptoBulkEntries entries + 1
  | .held _ => 1
def uptoBulkAll {H : Type} : List (DataW H) → Nat
  | [] => 0
  | d :: r => uptoBulk d + uptoBulkAll r
def uptoBulkEntries {H : Type} : List (Lit × DataW H) → Nat
  | [] => 0
  | x :: r => uptoBulkEntry x + uptoBulkEntries r
def uptoBulkEntry {H : Type} : Lit × DataW H → Nat
  | (.string bytes, d) => bytes.length + uptoBulk d + 1
  | (_, d) => uptoBulk d + 1
 end
def uptoSmall : (H : Type) → List (DataW H) → Bool := fun _ ds => decide (uptoBulkAll ds ≤ 1048576)
def OpenSpec.upto (s : _root_.Go.ChangeSpec) : _root_.Go.OpenSpec := { _root_.Go.OpenSpec.ofChange s with cond := some uptoSmall }

/-- 'laws.FnExactUnpackPoses', WHERE WHAT IT READS IS OF BULK AT MOST 1048576: true; the input reads as it did. -/
def fnExactUnpackPosesUptoRow : OpenClaim := { program := "ytmfmdoppjcaedaa", sum := "0474ee133f8ba64bac5e08c73962ef3395669ed71fa9d5fb23f1d3b5d18d8407", func := "loop.example/g01180/laws.FnExactUnpackPoses", spec := "fnExactUnpackPoses", inPlace := ["math.sqrt"], apart := false, narrowed := true }
def FnExactUnpackPosesUptoSaid : Prop := fnExactUnpackPosesUptoRow.holds Try.pinned (OpenSpec.upto fnExactUnpackPosesSpec)

/-- 'laws.FnExactUsedBones', WHERE WHAT IT READS IS OF BULK AT MOST 1048576: true; the input reads as it did. -/
def fnExactUsedBonesUptoRow : OpenClaim := { program := "ytmfmdoppjcaedaa", sum := "0474ee133f8ba64bac5e08c73962ef3395669ed71fa9d5fb23f1d3b5d18d8407", func := "loop.example/g01180/laws.FnExactUsedBones", spec := "fnExactUsedBones", recurses := true, apart := false, narrowed := true }
def FnExactUsedBonesUptoSaid : Prop := fnExactUsedBonesUptoRow.holds Try.pinned (OpenSpec.upto fnExactUsedBonesSpec)

end Rows
end Go.Proofs.Ytmfmdoppjcaedaa
