/-
  No cell of these rows narrows 'for every input' (looked for: loops, veiled, ifaces, maps, wideKeys, modest, calm, conditions, laid).
  DERIVED. THE GIVEN ROWS OF THIS SEAT. 10 by the template 'for every input the law returns true; each argument reads behind the call as it read before'; 0 by the template 'total and deterministic' (their statements: YthmpjkfccbchfaaTotals.lean).
  GIVEN WITH THE SEED: the statements are not yours to turn. If you find one false, say at which input.
  Laid BY PROGRAM, IN A SANDBOX (cutbox-rows.mjs): the forced cells as the released guide's own fill.sh prints them over the translation 912da409b3be6e32… (all of the seat's roots in one cut). By AI agents, Wed Nov 11 2026. No macro, syntax, notation, axiom, sorry.
-/
import Derived.Test.YthmpjkfccbchfaaChecked
import GoSem.Claim
import GoSem.ClaimJoined
import GoSem.ClaimMapViews
import Derived.JoinedTies
import Derived.KernelRfl
namespace Go.Proofs.Ythmpjkfccbchfaa
/- THE CELL 'sum', in the pinned program and in every row, IS THE sha256 OF THE DUMP (.gsa) THAT YthmpjkfccbchfaaProg.lean LOADS. Nothing in Lean hashes anything: it is a label: what it is worth is what the hold of that sum in a sandbox is worth. -/
noncomputable def Try.pinned : Pinned := { name := "ythmpjkfccbchfaa", sum := "912da409b3be6e32deb9b6420397832c405b65b51b13072acc62d1ab73327332", checked := Try.checked }
namespace Rows
def none {H : Type} : Left H := { results := [], args := [] }

/-- 'laws.FnNarrowed': WHATEVER THE INPUT: true; the input reads as it did. -/
def fnNarrowedSpec : ChangeSpec := { name := "fnNarrowed", fn := fun _ => fun
  | [d1, d2] => { results := [.lit (.bool true)], args := [d1, d2] }
  | _ => none }
def fnNarrowedRow : OpenClaim := { program := "ythmpjkfccbchfaa", sum := "912da409b3be6e32deb9b6420397832c405b65b51b13072acc62d1ab73327332", func := "loop.example/g01180/laws.FnNarrowed", spec := "fnNarrowed", inPlace := ["math.Float32frombits", "math.Float32bits"], apart := false }
def FnNarrowedSaid : Prop := fnNarrowedRow.holds Try.pinned (OpenSpec.ofChange fnNarrowedSpec)

/-- ITS FALSE NEIGHBOUR: 'it returns false'. Refute it at one input. -/
def fnNarrowedWrong : ChangeSpec := { name := "fnNarrowed", fn := fun _ => fun
  | [d1, d2] => { results := [.lit (.bool false)], args := [d1, d2] }
  | _ => none }
def FnNarrowedWrongFalsely : Prop := fnNarrowedRow.holds Try.pinned (OpenSpec.ofChange fnNarrowedWrong)

/-- 'laws.FnBits': WHATEVER THE INPUT: true; the input reads as it did. -/
def fnBitsSpec : ChangeSpec := { name := "fnBits", fn := fun _ => fun
  | [d1, d2] => { results := [.lit (.bool true)], args := [d1, d2] }
  | _ => none }
def fnBitsRow : OpenClaim := { program := "ythmpjkfccbchfaa", sum := "912da409b3be6e32deb9b6420397832c405b65b51b13072acc62d1ab73327332", func := "loop.example/g01180/laws.FnBits", spec := "fnBits", inPlace := ["math.Float32frombits", "math.Float32bits", "math.Float64bits"], apart := false }
def FnBitsSaid : Prop := fnBitsRow.holds Try.pinned (OpenSpec.ofChange fnBitsSpec)

/-- ITS FALSE NEIGHBOUR: 'it returns false'. Refute it at one input. -/
def fnBitsWrong : ChangeSpec := { name := "fnBits", fn := fun _ => fun
  | [d1, d2] => { results := [.lit (.bool false)], args := [d1, d2] }
  | _ => none }
def FnBitsWrongFalsely : Prop := fnBitsRow.holds Try.pinned (OpenSpec.ofChange fnBitsWrong)

/-- 'laws.FnCodes': WHATEVER THE INPUT: true; the input reads as it did. -/
def fnCodesSpec : ChangeSpec := { name := "fnCodes", fn := fun _ => fun
  | [d1, d2] => { results := [.lit (.bool true)], args := [d1, d2] }
  | _ => none }
def fnCodesRow : OpenClaim := { program := "ythmpjkfccbchfaa", sum := "912da409b3be6e32deb9b6420397832c405b65b51b13072acc62d1ab73327332", func := "loop.example/g01180/laws.FnCodes", spec := "fnCodes", inPlace := ["math.RoundToEven"], apart := false }
def FnCodesSaid : Prop := fnCodesRow.holds Try.pinned (OpenSpec.ofChange fnCodesSpec)

/-- ITS FALSE NEIGHBOUR: 'it returns false'. Refute it at one input. -/
def fnCodesWrong : ChangeSpec := { name := "fnCodes", fn := fun _ => fun
  | [d1, d2] => { results := [.lit (.bool false)], args := [d1, d2] }
  | _ => none }
def FnCodesWrongFalsely : Prop := fnCodesRow.holds Try.pinned (OpenSpec.ofChange fnCodesWrong)

/-- 'laws.FnSums': WHATEVER THE INPUT: true; the input reads as it did. -/
def fnSumsSpec : ChangeSpec := { name := "fnSums", fn := fun _ => fun
  | [d1, d2] => { results := [.lit (.bool true)], args := [d1, d2] }
  | _ => none }
def fnSumsRow : OpenClaim := { program := "ythmpjkfccbchfaa", sum := "912da409b3be6e32deb9b6420397832c405b65b51b13072acc62d1ab73327332", func := "loop.example/g01180/laws.FnSums", spec := "fnSums", inPlace := ["math.Float32frombits", "math.Float32bits"], recurses := true, apart := false }
def FnSumsSaid : Prop := fnSumsRow.holds Try.pinned (OpenSpec.ofChange fnSumsSpec)

/-- ITS FALSE NEIGHBOUR: 'it returns false'. Refute it at one input. -/
def fnSumsWrong : ChangeSpec := { name := "fnSums", fn := fun _ => fun
  | [d1, d2] => { results := [.lit (.bool false)], args := [d1, d2] }
  | _ => none }
def FnSumsWrongFalsely : Prop := fnSumsRow.holds Try.pinned (OpenSpec.ofChange fnSumsWrong)

/-- 'laws.FnTurnsBetween': WHATEVER THE INPUT: true; the input reads as it did. -/
def fnTurnsBetweenSpec : ChangeSpec := { name := "fnTurnsBetween", fn := fun _ => fun
  | [d1, d2] => { results := [.lit (.bool true)], args := [d1, d2] }
  | _ => none }
def fnTurnsBetweenRow : OpenClaim := { program := "ythmpjkfccbchfaa", sum := "912da409b3be6e32deb9b6420397832c405b65b51b13072acc62d1ab73327332", func := "loop.example/g01180/laws.FnTurnsBetween", spec := "fnTurnsBetween", inPlace := ["math.sqrt"], apart := false }
def FnTurnsBetweenSaid : Prop := fnTurnsBetweenRow.holds Try.pinned (OpenSpec.ofChange fnTurnsBetweenSpec)

/-- ITS FALSE NEIGHBOUR: 'it returns false'. Refute it at one input. -/
def fnTurnsBetweenWrong : ChangeSpec := { name := "fnTurnsBetween", fn := fun _ => fun
  | [d1, d2] => { results := [.lit (.bool false)], args := [d1, d2] }
  | _ => none }
def FnTurnsBetweenWrongFalsely : Prop := fnTurnsBetweenRow.holds Try.pinned (OpenSpec.ofChange fnTurnsBetweenWrong)

/-- 'laws.FnTurnProducts': WHATEVER THE INPUT: true; the input reads as it did. -/
def fnTurnProductsSpec : ChangeSpec := { name := "fnTurnProducts", fn := fun _ => fun
  | [d1, d2] => { results := [.lit (.bool true)], args := [d1, d2] }
  | _ => none }
def fnTurnProductsRow : OpenClaim := { program := "ythmpjkfccbchfaa", sum := "912da409b3be6e32deb9b6420397832c405b65b51b13072acc62d1ab73327332", func := "loop.example/g01180/laws.FnTurnProducts", spec := "fnTurnProducts", inPlace := ["math.sqrt"], apart := false }
def FnTurnProductsSaid : Prop := fnTurnProductsRow.holds Try.pinned (OpenSpec.ofChange fnTurnProductsSpec)

/-- ITS FALSE NEIGHBOUR: 'it returns false'. Refute it at one input. -/
def fnTurnProductsWrong : ChangeSpec := { name := "fnTurnProducts", fn := fun _ => fun
  | [d1, d2] => { results := [.lit (.bool false)], args := [d1, d2] }
  | _ => none }
def FnTurnProductsWrongFalsely : Prop := fnTurnProductsRow.holds Try.pinned (OpenSpec.ofChange fnTurnProductsWrong)

/-- 'laws.FnRotations': WHATEVER THE INPUT: true; the input reads as it did. -/
def fnRotationsSpec : ChangeSpec := { name := "fnRotations", fn := fun _ => fun
  | [d1, d2] => { results := [.lit (.bool true)], args := [d1, d2] }
  | _ => none }
def fnRotationsRow : OpenClaim := { program := "ythmpjkfccbchfaa", sum := "912da409b3be6e32deb9b6420397832c405b65b51b13072acc62d1ab73327332", func := "loop.example/g01180/laws.FnRotations", spec := "fnRotations", inPlace := ["math.sqrt", "math.Float64bits"], apart := false }
def FnRotationsSaid : Prop := fnRotationsRow.holds Try.pinned (OpenSpec.ofChange fnRotationsSpec)

/-- ITS FALSE NEIGHBOUR: 'it returns false'. Refute it at one input. -/
def fnRotationsWrong : ChangeSpec := { name := "fnRotations", fn := fun _ => fun
  | [d1, d2] => { results := [.lit (.bool false)], args := [d1, d2] }
  | _ => none }
def FnRotationsWrongFalsely : Prop := fnRotationsRow.holds Try.pinned (OpenSpec.ofChange fnRotationsWrong)

/-- 'laws.FnReached': WHATEVER THE INPUT: true; the input reads as it did. -/
def fnReachedSpec : ChangeSpec := { name := "fnReached", fn := fun _ => fun
  | [d1, d2] => { results := [.lit (.bool true)], args := [d1, d2] }
  | _ => none }
def fnReachedRow : OpenClaim := { program := "ythmpjkfccbchfaa", sum := "912da409b3be6e32deb9b6420397832c405b65b51b13072acc62d1ab73327332", func := "loop.example/g01180/laws.FnReached", spec := "fnReached", inPlace := ["math.sqrt", "math.Float64bits"], apart := false }
def FnReachedSaid : Prop := fnReachedRow.holds Try.pinned (OpenSpec.ofChange fnReachedSpec)

/-- ITS FALSE NEIGHBOUR: 'it returns false'. Refute it at one input. -/
def fnReachedWrong : ChangeSpec := { name := "fnReached", fn := fun _ => fun
  | [d1, d2] => { results := [.lit (.bool false)], args := [d1, d2] }
  | _ => none }
def FnReachedWrongFalsely : Prop := fnReachedRow.holds Try.pinned (OpenSpec.ofChange fnReachedWrong)

/-- 'laws.FnTwoBones': WHATEVER THE INPUT: true; the input reads as it did. -/
def fnTwoBonesSpec : ChangeSpec := { name := "fnTwoBones", fn := fun _ => fun
  | [d1, d2] => { results := [.lit (.bool true)], args := [d1, d2] }
  | _ => none }
def fnTwoBonesRow : OpenClaim := { program := "ythmpjkfccbchfaa", sum := "912da409b3be6e32deb9b6420397832c405b65b51b13072acc62d1ab73327332", func := "loop.example/g01180/laws.FnTwoBones", spec := "fnTwoBones", inPlace := ["math.sqrt"], apart := false }
def FnTwoBonesSaid : Prop := fnTwoBonesRow.holds Try.pinned (OpenSpec.ofChange fnTwoBonesSpec)

/-- ITS FALSE NEIGHBOUR: 'it returns false'. Refute it at one input. -/
def fnTwoBonesWrong : ChangeSpec := { name := "fnTwoBones", fn := fun _ => fun
  | [d1, d2] => { results := [.lit (.bool false)], args := [d1, d2] }
  | _ => none }
def FnTwoBonesWrongFalsely : Prop := fnTwoBonesRow.holds Try.pinned (OpenSpec.ofChange fnTwoBonesWrong)

/-- 'laws.FnMended': WHATEVER THE INPUT: true; the input reads as it did. -/
def fnMendedSpec : ChangeSpec := { name := "fnMended", fn := fun _ => fun
  | [d1, d2] => { results := [.lit (.bool true)], args := [d1, d2] }
  | _ => none }
def fnMendedRow : OpenClaim := { program := "ythmpjkfccbchfaa", sum := "912da409b3be6e32deb9b6420397832c405b65b51b13072acc62d1ab73327332", func := "loop.example/g01180/laws.FnMended", spec := "fnMended", inPlace := ["math.sqrt", "math.Float32frombits", "math.Float64bits"], apart := false }
def FnMendedSaid : Prop := fnMendedRow.holds Try.pinned (OpenSpec.ofChange fnMendedSpec)

/-- ITS FALSE NEIGHBOUR: 'it returns false'. Refute it at one input. -/
def fnMendedWrong : ChangeSpec := { name := "fnMended", fn := fun _ => fun
  | [d1, d2] => { results := [.lit (.bool false)], args := [d1, d2] }
  | _ => none }
def FnMendedWrongFalsely : Prop := fnMendedRow.holds Try.pinned (OpenSpec.ofChange fnMendedWrong)

/- THE SECOND FORM. 'bulk': how many values and letters a reading holds, each counted each time it is reached (what is shared counts as often as it is met; a slice's spare places count too). A statement '..UptoSaid' is the law's where the arguments, and the package variables that the reading takes, are together of bulk at most 1048576: NARROWER than '..Said'. Prove '..Said' where nothing that the law and all that it calls make is longer than what came in: it says more and counts as full. Else prove '..UptoSaid'. A law counts once. -/
mutual
def uptoBulk {H : Type} : DataW H → Nat
  | .lit (.string bytes) => bytes.length + 1
  | .lit _ => 1
  | .nil => 1
  | .ptr d => uptoBulk d + 1
  | .slice elems spare => uptoBulkAll elems + uptoBulkAll spare + 1
  | .agg parts => uptoBulkAll parts + 1
  | .iface _ d => uptoBulk d + 1
  | .map entries => uptoBulkEntries entries + 1
  | .held _ => 1
def uptoBulkAll {H : Type} : List (DataW H) → Nat
  | [] => 0
  | d :: r => uptoBulk d + uptoBulkAll r
def uptoBulkEntries {H : Type} : List (Lit × DataW H) → Nat
  | [] => 0
  | x :: r => uptoBulkEntry x + uptoBulkEntries r
def uptoBulkEntry {H : Type} : Lit × DataW H → Nat
  | (.string bytes, d) => bytes.length + uptoBulk d + 1
  | (_, d) => uptoBulk d + 1
 end
def uptoSmall : (H : Type) → List (DataW H) → Bool := fun _ ds => decide (uptoBulkAll ds ≤ 1048576)
def OpenSpec.upto (s : _root_.Go.ChangeSpec) : _root_.Go.OpenSpec := { _root_.Go.OpenSpec.ofChange s with cond := some uptoSmall }

/-- 'laws.FnNarrowed', WHERE WHAT IT READS IS OF BULK AT MOST 1048576: true; the input reads as it did. -/
def fnNarrowedUptoRow : OpenClaim := { program := "ythmpjkfccbchfaa", sum := "912da409b3be6e32deb9b6420397832c405b65b51b13072acc62d1ab73327332", func := "loop.example/g01180/laws.FnNarrowed", spec := "fnNarrowed", inPlace := ["math.Float32frombits", "math.Float32bits"], apart := false, narrowed := true }
def FnNarrowedUptoSaid : Prop := fnNarrowedUptoRow.holds Try.pinned (OpenSpec.upto fnNarrowedSpec)

/-- 'laws.FnBits', WHERE WHAT IT READS IS OF BULK AT MOST 1048576: true; the input reads as it did. -/
def fnBitsUptoRow : OpenClaim := { program := "ythmpjkfccbchfaa", sum := "912da409b3be6e32deb9b6420397832c405b65b51b13072acc62d1ab73327332", func := "loop.example/g01180/laws.FnBits", spec := "fnBits", inPlace := ["math.Float32frombits", "math.Float32bits", "math.Float64bits"], apart := false, narrowed := true }
def FnBitsUptoSaid : Prop := fnBitsUptoRow.holds Try.pinned (OpenSpec.upto fnBitsSpec)

/-- 'laws.FnCodes', WHERE WHAT IT READS IS OF BULK AT MOST 1048576: true; the input reads as it did. -/
def fnCodesUptoRow : OpenClaim := { program := "ythmpjkfccbchfaa", sum := "912da409b3be6e32deb9b6420397832c405b65b51b13072acc62d1ab73327332", func := "loop.example/g01180/laws.FnCodes", spec := "fnCodes", inPlace := ["math.RoundToEven"], apart := false, narrowed := true }
def FnCodesUptoSaid : Prop := fnCodesUptoRow.holds Try.pinned (OpenSpec.upto fnCodesSpec)

/-- 'laws.FnSums', WHERE WHAT IT READS IS OF BULK AT MOST 1048576: true; the input reads as it did. -/
def fnSumsUptoRow : OpenClaim := { program := "ythmpjkfccbchfaa", sum := "912da409b3be6e32deb9b6420397832c405b65b51b13072acc62d1ab73327332", func := "loop.example/g01180/laws.FnSums", spec := "fnSums", inPlace := ["math.Float32frombits", "math.Float32bits"], recurses := true, apart := false, narrowed := true }
def FnSumsUptoSaid : Prop := fnSumsUptoRow.holds Try.pinned (OpenSpec.upto fnSumsSpec)

/-- 'laws.FnTurnsBetween', WHERE WHAT IT READS IS OF BULK AT MOST 1048576: true; the input reads as it did. -/
def fnTurnsBetweenUptoRow : OpenClaim := { program := "ythmpjkfccbchfaa", sum := "912da409b3be6e32deb9b6420397832c405b65b51b13072acc62d1ab73327332", func := "loop.example/g01180/laws.FnTurnsBetween", spec := "fnTurnsBetween", inPlace := ["math.sqrt"], apart := false, narrowed := true }
def FnTurnsBetweenUptoSaid : Prop := fnTurnsBetweenUptoRow.holds Try.pinned (OpenSpec.upto fnTurnsBetweenSpec)

/-- 'laws.FnTurnProducts', WHERE WHAT IT READS IS OF BULK AT MOST 1048576: true; the input reads as it did. -/
def fnTurnProductsUptoRow : OpenClaim := { program := "ythmpjkfccbchfaa", sum := "912da409b3be6e32deb9b6420397832c405b65b51b13072acc62d1ab73327332", func := "loop.example/g01180/laws.FnTurnProducts", spec := "fnTurnProducts", inPlace := ["math.sqrt"], apart := false, narrowed := true }
def FnTurnProductsUptoSaid : Prop := fnTurnProductsUptoRow.holds Try.pinned (OpenSpec.upto fnTurnProductsSpec)

/-- 'laws.FnRotations', WHERE WHAT IT READS IS OF BULK AT MOST 1048576: true; the input reads as it did. -/
def fnRotationsUptoRow : OpenClaim := { program := "ythmpjkfccbchfaa", sum := "912da409b3be6e32deb9b6420397832c405b65b51b13072acc62d1ab73327332", func := "loop.example/g01180/laws.FnRotations", spec := "fnRotations", inPlace := ["math.sqrt", "math.Float64bits"], apart := false, narrowed := true }
def FnRotationsUptoSaid : Prop := fnRotationsUptoRow.holds Try.pinned (OpenSpec.upto fnRotationsSpec)

/-- 'laws.FnReached', WHERE WHAT IT READS IS OF BULK AT MOST 1048576: true; the input reads as it did. -/
def fnReachedUptoRow : OpenClaim := { program := "ythmpjkfccbchfaa", sum := "912da409b3be6e32deb9b6420397832c405b65b51b13072acc62d1ab73327332", func := "loop.example/g01180/laws.FnReached", spec := "fnReached", inPlace := ["math.sqrt", "math.Float64bits"], apart := false, narrowed := true }
def FnReachedUptoSaid : Prop := fnReachedUptoRow.holds Try.pinned (OpenSpec.upto fnReachedSpec)

/-- 'laws.FnTwoBones', WHERE WHAT IT READS IS OF BULK AT MOST 1048576: true; the input reads as it did. -/
def fnTwoBonesUptoRow : OpenClaim := { program := "ythmpjkfccbchfaa", sum := "912da409b3be6e32deb9b6420397832c405b65b51b13072acc62d1ab73327332", func := "loop.example/g01180/laws.FnTwoBones", spec := "fnTwoBones", inPlace := ["math.sqrt"], apart := false, narrowed := true }
def FnTwoBonesUptoSaid : Prop := fnTwoBonesUptoRow.holds Try.pinned (OpenSpec.upto fnTwoBonesSpec)

/-- 'laws.FnMended', WHERE WHAT IT READS IS OF BULK AT MOST 1048576: true; the input reads as it did. -/
def fnMendedUptoRow : OpenClaim := { program := "ythmpjkfccbchfaa", sum := "912da409b3be6e32deb9b6420397832c405b65b51b13072acc62d1ab73327332", func := "loop.example/g01180/laws.FnMended", spec := "fnMended", inPlace := ["math.sqrt", "math.Float32frombits", "math.Float64bits"], apart := false, narrowed := true }
def FnMendedUptoSaid : Prop := fnMendedUptoRow.holds Try.pinned (OpenSpec.upto fnMendedSpec)

end Rows
end Go.Proofs.Ythmpjkfccbchfaa
