/-
  No cell of these rows narrows 'for every input' (looked for: loops, veiled, ifaces, maps, wideKeys, modest, calm, conditions, laid).
  DERIVED. THE GIVEN ROWS OF THIS SEAT. 10 by the template 'for every input the law returns true; each argument reads behind the call as it read before'; 0 by the template 'total and deterministic' (their statements: YtalhiopcegnobaaTotals.lean).
  GIVEN WITH THE SEED: the statements are not yours to turn. If you find one false, say at which input.
  Laid BY PROGRAM, IN A SANDBOX (cutbox-rows.mjs): the forced cells as the released guide's own fill.sh prints them over the translation d7a622578305e57b… (all of the seat's roots in one cut). By AI agents, Wed Nov 11 2026. No macro, syntax, notation, axiom, sorry.
-/
import Derived.Test.YtalhiopcegnobaaChecked
import GoSem.Claim
import GoSem.ClaimJoined
import GoSem.ClaimMapViews
import Derived.JoinedTies
import Derived.KernelRfl
namespace Go.Proofs.Ytalhiopcegnobaa
/- THE CELL 'sum', in the pinned program and in every row, IS THE sha256 OF THE DUMP (.gsa) THAT YtalhiopcegnobaaProg.lean LOADS. Nothing in Lean hashes anything: it is a label: what it is worth is what the hold of that sum in a sandbox is worth. -/
noncomputable def Try.pinned : Pinned := { name := "ytalhiopcegnobaa", sum := "d7a622578305e57bb2ac6ee6ec99710a6c7cdee45feb273ed293c95ff1418a20", checked := Try.checked }
namespace Rows
def none {H : Type} : Left H := { results := [], args := [] }

/-- 'laws.FnExactSameSpring': WHATEVER THE INPUT: true; the input reads as it did. -/
def fnExactSameSpringSpec : ChangeSpec := { name := "fnExactSameSpring", fn := fun _ => fun
  | [d1, d2] => { results := [.lit (.bool true)], args := [d1, d2] }
  | _ => none }
def fnExactSameSpringRow : OpenClaim := { program := "ytalhiopcegnobaa", sum := "d7a622578305e57bb2ac6ee6ec99710a6c7cdee45feb273ed293c95ff1418a20", func := "loop.example/g01180/laws.FnExactSameSpring", spec := "fnExactSameSpring", inPlace := ["math.Float32bits", "math.Float64bits"], apart := false }
def FnExactSameSpringSaid : Prop := fnExactSameSpringRow.holds Try.pinned (OpenSpec.ofChange fnExactSameSpringSpec)

/-- ITS FALSE NEIGHBOUR: 'it returns false'. Refute it at one input. -/
def fnExactSameSpringWrong : ChangeSpec := { name := "fnExactSameSpring", fn := fun _ => fun
  | [d1, d2] => { results := [.lit (.bool false)], args := [d1, d2] }
  | _ => none }
def FnExactSameSpringWrongFalsely : Prop := fnExactSameSpringRow.holds Try.pinned (OpenSpec.ofChange fnExactSameSpringWrong)

/-- 'laws.FnExactStepSpring': WHATEVER THE INPUT: true; the input reads as it did. -/
def fnExactStepSpringSpec : ChangeSpec := { name := "fnExactStepSpring", fn := fun _ => fun
  | [d1, d2] => { results := [.lit (.bool true)], args := [d1, d2] }
  | _ => none }
def fnExactStepSpringRow : OpenClaim := { program := "ytalhiopcegnobaa", sum := "d7a622578305e57bb2ac6ee6ec99710a6c7cdee45feb273ed293c95ff1418a20", func := "loop.example/g01180/laws.FnExactStepSpring", spec := "fnExactStepSpring", inPlace := ["math.Float32bits", "math.Float32frombits", "math.Float64bits", "math.Float64frombits"], apart := false }
def FnExactStepSpringSaid : Prop := fnExactStepSpringRow.holds Try.pinned (OpenSpec.ofChange fnExactStepSpringSpec)

/-- ITS FALSE NEIGHBOUR: 'it returns false'. Refute it at one input. -/
def fnExactStepSpringWrong : ChangeSpec := { name := "fnExactStepSpring", fn := fun _ => fun
  | [d1, d2] => { results := [.lit (.bool false)], args := [d1, d2] }
  | _ => none }
def FnExactStepSpringWrongFalsely : Prop := fnExactStepSpringRow.holds Try.pinned (OpenSpec.ofChange fnExactStepSpringWrong)

/-- 'laws.FnSpringRests': WHATEVER THE INPUT: true; the input reads as it did. -/
def fnSpringRestsSpec : ChangeSpec := { name := "fnSpringRests", fn := fun _ => fun
  | [d1, d2] => { results := [.lit (.bool true)], args := [d1, d2] }
  | _ => none }
def fnSpringRestsRow : OpenClaim := { program := "ytalhiopcegnobaa", sum := "d7a622578305e57bb2ac6ee6ec99710a6c7cdee45feb273ed293c95ff1418a20", func := "loop.example/g01180/laws.FnSpringRests", spec := "fnSpringRests", inPlace := ["math.Float64bits", "math.Float64frombits"], apart := false }
def FnSpringRestsSaid : Prop := fnSpringRestsRow.holds Try.pinned (OpenSpec.ofChange fnSpringRestsSpec)

/-- ITS FALSE NEIGHBOUR: 'it returns false'. Refute it at one input. -/
def fnSpringRestsWrong : ChangeSpec := { name := "fnSpringRests", fn := fun _ => fun
  | [d1, d2] => { results := [.lit (.bool false)], args := [d1, d2] }
  | _ => none }
def FnSpringRestsWrongFalsely : Prop := fnSpringRestsRow.holds Try.pinned (OpenSpec.ofChange fnSpringRestsWrong)

/-- 'laws.FnExactRestOfSpring': WHATEVER THE INPUT: true; the input reads as it did. -/
def fnExactRestOfSpringSpec : ChangeSpec := { name := "fnExactRestOfSpring", fn := fun _ => fun
  | [d1, d2, d3] => { results := [.lit (.bool true)], args := [d1, d2, d3] }
  | _ => none }
def fnExactRestOfSpringRow : OpenClaim := { program := "ytalhiopcegnobaa", sum := "d7a622578305e57bb2ac6ee6ec99710a6c7cdee45feb273ed293c95ff1418a20", func := "loop.example/g01180/laws.FnExactRestOfSpring", spec := "fnExactRestOfSpring", inPlace := ["math.Float32bits", "math.Float32frombits", "math.Float64bits", "math.Float64frombits"], apart := false }
def FnExactRestOfSpringSaid : Prop := fnExactRestOfSpringRow.holds Try.pinned (OpenSpec.ofChange fnExactRestOfSpringSpec)

/-- ITS FALSE NEIGHBOUR: 'it returns false'. Refute it at one input. -/
def fnExactRestOfSpringWrong : ChangeSpec := { name := "fnExactRestOfSpring", fn := fun _ => fun
  | [d1, d2, d3] => { results := [.lit (.bool false)], args := [d1, d2, d3] }
  | _ => none }
def FnExactRestOfSpringWrongFalsely : Prop := fnExactRestOfSpringRow.holds Try.pinned (OpenSpec.ofChange fnExactRestOfSpringWrong)

/-- 'laws.FnExactStepPoint': WHATEVER THE INPUT: true; the input reads as it did. -/
def fnExactStepPointSpec : ChangeSpec := { name := "fnExactStepPoint", fn := fun _ => fun
  | [d1, d2] => { results := [.lit (.bool true)], args := [d1, d2] }
  | _ => none }
def fnExactStepPointRow : OpenClaim := { program := "ytalhiopcegnobaa", sum := "d7a622578305e57bb2ac6ee6ec99710a6c7cdee45feb273ed293c95ff1418a20", func := "loop.example/g01180/laws.FnExactStepPoint", spec := "fnExactStepPoint", inPlace := ["math.Float32bits", "math.Float32frombits", "math.Float64bits", "math.Float64frombits"], apart := false }
def FnExactStepPointSaid : Prop := fnExactStepPointRow.holds Try.pinned (OpenSpec.ofChange fnExactStepPointSpec)

/-- ITS FALSE NEIGHBOUR: 'it returns false'. Refute it at one input. -/
def fnExactStepPointWrong : ChangeSpec := { name := "fnExactStepPoint", fn := fun _ => fun
  | [d1, d2] => { results := [.lit (.bool false)], args := [d1, d2] }
  | _ => none }
def FnExactStepPointWrongFalsely : Prop := fnExactStepPointRow.holds Try.pinned (OpenSpec.ofChange fnExactStepPointWrong)

/-- 'laws.FnPendulums': WHATEVER THE INPUT: true; the input reads as it did. -/
def fnPendulumsSpec : ChangeSpec := { name := "fnPendulums", fn := fun _ => fun
  | [d1, d2] => { results := [.lit (.bool true)], args := [d1, d2] }
  | _ => none }
def fnPendulumsRow : OpenClaim := { program := "ytalhiopcegnobaa", sum := "d7a622578305e57bb2ac6ee6ec99710a6c7cdee45feb273ed293c95ff1418a20", func := "loop.example/g01180/laws.FnPendulums", spec := "fnPendulums", inPlace := ["math.Float64frombits", "math.Float64bits", "math.archTrunc"], apart := false }
def FnPendulumsSaid : Prop := fnPendulumsRow.holds Try.pinned (OpenSpec.ofChange fnPendulumsSpec)

/-- ITS FALSE NEIGHBOUR: 'it returns false'. Refute it at one input. -/
def fnPendulumsWrong : ChangeSpec := { name := "fnPendulums", fn := fun _ => fun
  | [d1, d2] => { results := [.lit (.bool false)], args := [d1, d2] }
  | _ => none }
def FnPendulumsWrongFalsely : Prop := fnPendulumsRow.holds Try.pinned (OpenSpec.ofChange fnPendulumsWrong)

/-- 'laws.FnExactRunSpring': WHATEVER THE INPUT: true; the input reads as it did. -/
def fnExactRunSpringSpec : ChangeSpec := { name := "fnExactRunSpring", fn := fun _ => fun
  | [d1, d2] => { results := [.lit (.bool true)], args := [d1, d2] }
  | _ => none }
def fnExactRunSpringRow : OpenClaim := { program := "ytalhiopcegnobaa", sum := "d7a622578305e57bb2ac6ee6ec99710a6c7cdee45feb273ed293c95ff1418a20", func := "loop.example/g01180/laws.FnExactRunSpring", spec := "fnExactRunSpring", inPlace := ["math.Float32bits", "math.Float32frombits", "math.Float64bits", "math.Float64frombits"], apart := false }
def FnExactRunSpringSaid : Prop := fnExactRunSpringRow.holds Try.pinned (OpenSpec.ofChange fnExactRunSpringSpec)

/-- ITS FALSE NEIGHBOUR: 'it returns false'. Refute it at one input. -/
def fnExactRunSpringWrong : ChangeSpec := { name := "fnExactRunSpring", fn := fun _ => fun
  | [d1, d2] => { results := [.lit (.bool false)], args := [d1, d2] }
  | _ => none }
def FnExactRunSpringWrongFalsely : Prop := fnExactRunSpringRow.holds Try.pinned (OpenSpec.ofChange fnExactRunSpringWrong)

/-- 'laws.FnSprings': WHATEVER THE INPUT: true; the input reads as it did. -/
def fnSpringsSpec : ChangeSpec := { name := "fnSprings", fn := fun _ => fun
  | [d1, d2] => { results := [.lit (.bool true)], args := [d1, d2] }
  | _ => none }
def fnSpringsRow : OpenClaim := { program := "ytalhiopcegnobaa", sum := "d7a622578305e57bb2ac6ee6ec99710a6c7cdee45feb273ed293c95ff1418a20", func := "loop.example/g01180/laws.FnSprings", spec := "fnSprings", inPlace := ["math.Float32frombits", "math.Float64bits", "math.Float64frombits"], apart := false }
def FnSpringsSaid : Prop := fnSpringsRow.holds Try.pinned (OpenSpec.ofChange fnSpringsSpec)

/-- ITS FALSE NEIGHBOUR: 'it returns false'. Refute it at one input. -/
def fnSpringsWrong : ChangeSpec := { name := "fnSprings", fn := fun _ => fun
  | [d1, d2] => { results := [.lit (.bool false)], args := [d1, d2] }
  | _ => none }
def FnSpringsWrongFalsely : Prop := fnSpringsRow.holds Try.pinned (OpenSpec.ofChange fnSpringsWrong)

/-- 'laws.FnExactStepSwing': WHATEVER THE INPUT: true; the input reads as it did. -/
def fnExactStepSwingSpec : ChangeSpec := { name := "fnExactStepSwing", fn := fun _ => fun
  | [d] => { results := [.lit (.bool true)], args := [d] }
  | _ => none }
def fnExactStepSwingRow : OpenClaim := { program := "ytalhiopcegnobaa", sum := "d7a622578305e57bb2ac6ee6ec99710a6c7cdee45feb273ed293c95ff1418a20", func := "loop.example/g01180/laws.FnExactStepSwing", spec := "fnExactStepSwing", inPlace := ["math.Float64frombits", "math.Float32bits", "math.Float32frombits", "math.Float64bits", "math.archTrunc"], apart := false }
def FnExactStepSwingSaid : Prop := fnExactStepSwingRow.holds Try.pinned (OpenSpec.ofChange fnExactStepSwingSpec)

/-- ITS FALSE NEIGHBOUR: 'it returns false'. Refute it at one input. -/
def fnExactStepSwingWrong : ChangeSpec := { name := "fnExactStepSwing", fn := fun _ => fun
  | [d] => { results := [.lit (.bool false)], args := [d] }
  | _ => none }
def FnExactStepSwingWrongFalsely : Prop := fnExactStepSwingRow.holds Try.pinned (OpenSpec.ofChange fnExactStepSwingWrong)

/-- 'laws.FnExactRunSwing': WHATEVER THE INPUT: true; the input reads as it did. -/
def fnExactRunSwingSpec : ChangeSpec := { name := "fnExactRunSwing", fn := fun _ => fun
  | [d1, d2] => { results := [.lit (.bool true)], args := [d1, d2] }
  | _ => none }
def fnExactRunSwingRow : OpenClaim := { program := "ytalhiopcegnobaa", sum := "d7a622578305e57bb2ac6ee6ec99710a6c7cdee45feb273ed293c95ff1418a20", func := "loop.example/g01180/laws.FnExactRunSwing", spec := "fnExactRunSwing", inPlace := ["math.Float64frombits", "math.Float32bits", "math.Float32frombits", "math.Float64bits", "math.archTrunc"], apart := false }
def FnExactRunSwingSaid : Prop := fnExactRunSwingRow.holds Try.pinned (OpenSpec.ofChange fnExactRunSwingSpec)

/-- ITS FALSE NEIGHBOUR: 'it returns false'. Refute it at one input. -/
def fnExactRunSwingWrong : ChangeSpec := { name := "fnExactRunSwing", fn := fun _ => fun
  | [d1, d2] => { results := [.lit (.bool false)], args := [d1, d2] }
  | _ => none }
def FnExactRunSwingWrongFalsely : Prop := fnExactRunSwingRow.holds Try.pinned (OpenSpec.ofChange fnExactRunSwingWrong)

/- THE SECOND FORM. 'bulk': how many values and letters a reading holds, each counted each time it is reached (what is shared counts as often as it is met; a slice's spare places count too). A statement '..UptoSaid' is the law's where the arguments, and the package variables that the reading takes, are together of bulk at most 1048576: NARROWER than '..Said'. Prove '..Said' where nothing that the law and all that it calls make is longer than what came in: it says more and counts as full. Else prove '..UptoSaid'. A law counts once. -/
mutual
def uptoBulk {H : Type} : DataW H → Nat
  | .lit (.string bytes) => bytes.length + 1
  | .lit _ => 1
  | .nil => 1
  | .ptr d => uptoBulk d + 1
  | .slice elems spare => uptoBulkAll elems + uptoBulkAll spare + 1
  | .agg parts => uptoBulkAll parts + 1
  | .iface _ d => uptoBulk d + 1
  | .map entries => uptoBulkEntries entries + 1
  | .held _ => 1
def uptoBulkAll {H : Type} : List (DataW H) → Nat
  | [] => 0
  | d :: r => uptoBulk d + uptoBulkAll r
def uptoBulkEntries {H : Type} : List (Lit × DataW H) → Nat
  | [] => 0
  | x :: r => uptoBulkEntry x + uptoBulkEntries r
def uptoBulkEntry {H : Type} : Lit × DataW H → Nat
  | (.string bytes, d) => bytes.length + uptoBulk d + 1
  | (_, d) => uptoBulk d + 1
 end
def uptoSmall : (H : Type) → List (DataW H) → Bool := fun _ ds => decide (uptoBulkAll ds ≤ 1048576)
def OpenSpec.upto (s : _root_.Go.ChangeSpec) : _root_.Go.OpenSpec := { _root_.Go.OpenSpec.ofChange s with cond := some uptoSmall }

/-- 'laws.FnExactSameSpring', WHERE WHAT IT READS IS OF BULK AT MOST 1048576: true; the input reads as it did. -/
def fnExactSameSpringUptoRow : OpenClaim := { program := "ytalhiopcegnobaa", sum := "d7a622578305e57bb2ac6ee6ec99710a6c7cdee45feb273ed293c95ff1418a20", func := "loop.example/g01180/laws.FnExactSameSpring", spec := "fnExactSameSpring", inPlace := ["math.Float32bits", "math.Float64bits"], apart := false, narrowed := true }
def FnExactSameSpringUptoSaid : Prop := fnExactSameSpringUptoRow.holds Try.pinned (OpenSpec.upto fnExactSameSpringSpec)

/-- 'laws.FnExactStepSpring', WHERE WHAT IT READS IS OF BULK AT MOST 1048576: true; the input reads as it did. -/
def fnExactStepSpringUptoRow : OpenClaim := { program := "ytalhiopcegnobaa", sum := "d7a622578305e57bb2ac6ee6ec99710a6c7cdee45feb273ed293c95ff1418a20", func := "loop.example/g01180/laws.FnExactStepSpring", spec := "fnExactStepSpring", inPlace := ["math.Float32bits", "math.Float32frombits", "math.Float64bits", "math.Float64frombits"], apart := false, narrowed := true }
def FnExactStepSpringUptoSaid : Prop := fnExactStepSpringUptoRow.holds Try.pinned (OpenSpec.upto fnExactStepSpringSpec)

/-- 'laws.FnSpringRests', WHERE WHAT IT READS IS OF BULK AT MOST 1048576: true; the input reads as it did. -/
def fnSpringRestsUptoRow : OpenClaim := { program := "ytalhiopcegnobaa", sum := "d7a622578305e57bb2ac6ee6ec99710a6c7cdee45feb273ed293c95ff1418a20", func := "loop.example/g01180/laws.FnSpringRests", spec := "fnSpringRests", inPlace := ["math.Float64bits", "math.Float64frombits"], apart := false, narrowed := true }
def FnSpringRestsUptoSaid : Prop := fnSpringRestsUptoRow.holds Try.pinned (OpenSpec.upto fnSpringRestsSpec)

/-- 'laws.FnExactRestOfSpring', WHERE WHAT IT READS IS OF BULK AT MOST 1048576: true; the input reads as it did. -/
def fnExactRestOfSpringUptoRow : OpenClaim := { program := "ytalhiopcegnobaa", sum := "d7a622578305e57bb2ac6ee6ec99710a6c7cdee45feb273ed293c95ff1418a20", func := "loop.example/g01180/laws.FnExactRestOfSpring", spec := "fnExactRestOfSpring", inPlace := ["math.Float32bits", "math.Float32frombits", "math.Float64bits", "math.Float64frombits"], apart := false, narrowed := true }
def FnExactRestOfSpringUptoSaid : Prop := fnExactRestOfSpringUptoRow.holds Try.pinned (OpenSpec.upto fnExactRestOfSpringSpec)

/-- 'laws.FnExactStepPoint', WHERE WHAT IT READS IS OF BULK AT MOST 1048576: true; the input reads as it did. -/
def fnExactStepPointUptoRow : OpenClaim := { program := "ytalhiopcegnobaa", sum := "d7a622578305e57bb2ac6ee6ec99710a6c7cdee45feb273ed293c95ff1418a20", func := "loop.example/g01180/laws.FnExactStepPoint", spec := "fnExactStepPoint", inPlace := ["math.Float32bits", "math.Float32frombits", "math.Float64bits", "math.Float64frombits"], apart := false, narrowed := true }
def FnExactStepPointUptoSaid : Prop := fnExactStepPointUptoRow.holds Try.pinned (OpenSpec.upto fnExactStepPointSpec)

/-- 'laws.FnPendulums', WHERE WHAT IT READS IS OF BULK AT MOST 1048576: true; the input reads as it did. -/
def fnPendulumsUptoRow : OpenClaim := { program := "ytalhiopcegnobaa", sum := "d7a622578305e57bb2ac6ee6ec99710a6c7cdee45feb273ed293c95ff1418a20", func := "loop.example/g01180/laws.FnPendulums", spec := "fnPendulums", inPlace := ["math.Float64frombits", "math.Float64bits", "math.archTrunc"], apart := false, narrowed := true }
def FnPendulumsUptoSaid : Prop := fnPendulumsUptoRow.holds Try.pinned (OpenSpec.upto fnPendulumsSpec)

/-- 'laws.FnExactRunSpring', WHERE WHAT IT READS IS OF BULK AT MOST 1048576: true; the input reads as it did. -/
def fnExactRunSpringUptoRow : OpenClaim := { program := "ytalhiopcegnobaa", sum := "d7a622578305e57bb2ac6ee6ec99710a6c7cdee45feb273ed293c95ff1418a20", func := "loop.example/g01180/laws.FnExactRunSpring", spec := "fnExactRunSpring", inPlace := ["math.Float32bits", "math.Float32frombits", "math.Float64bits", "math.Float64frombits"], apart := false, narrowed := true }
def FnExactRunSpringUptoSaid : Prop := fnExactRunSpringUptoRow.holds Try.pinned (OpenSpec.upto fnExactRunSpringSpec)

/-- 'laws.FnSprings', WHERE WHAT IT READS IS OF BULK AT MOST 1048576: true; the input reads as it did. -/
def fnSpringsUptoRow : OpenClaim := { program := "ytalhiopcegnobaa", sum := "d7a622578305e57bb2ac6ee6ec99710a6c7cdee45feb273ed293c95ff1418a20", func := "loop.example/g01180/laws.FnSprings", spec := "fnSprings", inPlace := ["math.Float32frombits", "math.Float64bits", "math.Float64frombits"], apart := false, narrowed := true }
def FnSpringsUptoSaid : Prop := fnSpringsUptoRow.holds Try.pinned (OpenSpec.upto fnSpringsSpec)

/-- 'laws.FnExactStepSwing', WHERE WHAT IT READS IS OF BULK AT MOST 1048576: true; the input reads as it did. -/
def fnExactStepSwingUptoRow : OpenClaim := { program := "ytalhiopcegnobaa", sum := "d7a622578305e57bb2ac6ee6ec99710a6c7cdee45feb273ed293c95ff1418a20", func := "loop.example/g01180/laws.FnExactStepSwing", spec := "fnExactStepSwing", inPlace := ["math.Float64frombits", "math.Float32bits", "math.Float32frombits", "math.Float64bits", "math.archTrunc"], apart := false, narrowed := true }
def FnExactStepSwingUptoSaid : Prop := fnExactStepSwingUptoRow.holds Try.pinned (OpenSpec.upto fnExactStepSwingSpec)

/-- 'laws.FnExactRunSwing', WHERE WHAT IT READS IS OF BULK AT MOST 1048576: true; the input reads as it did. -/
def fnExactRunSwingUptoRow : OpenClaim := { program := "ytalhiopcegnobaa", sum := "d7a622578305e57bb2ac6ee6ec99710a6c7cdee45feb273ed293c95ff1418a20", func := "loop.example/g01180/laws.FnExactRunSwing", spec := "fnExactRunSwing", inPlace := ["math.Float64frombits", "math.Float32bits", "math.Float32frombits", "math.Float64bits", "math.archTrunc"], apart := false, narrowed := true }
def FnExactRunSwingUptoSaid : Prop := fnExactRunSwingUptoRow.holds Try.pinned (OpenSpec.upto fnExactRunSwingSpec)

end Rows
end Go.Proofs.Ytalhiopcegnobaa
