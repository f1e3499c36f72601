/- The reference's functions and the program's compute the same (third part). No condition. -/
import Derived.Test.YthmpjkfccbchfaaAEq2
set_option linter.unusedVariables false
set_option linter.unusedSimpArgs false
namespace Go.Fw

/-! ValidRecording -/
/-! ChangedNumbers -/
/-- The same number, bit for bit, all not-a-numbers being one. -/
def same (x y : Nat) : Bool := Nat.beq x y
/-! EdgesOf -/
end Go.Fw
