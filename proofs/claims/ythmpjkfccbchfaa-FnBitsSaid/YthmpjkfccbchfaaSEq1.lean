/- The reference's functions and the program's compute the same: numbers that are flushed, springs. No condition. -/
import Derived.Test.YthmpjkfccbchfaaAEq3
import Derived.Test.YthmpjkfccbchfaaSThy
import Derived.Test.YthmpjkfccbchfaaFwE
set_option linter.unusedVariables false
set_option linter.unusedSimpArgs false
namespace Go.Fw
theorem iand64 (a b : Nat) (ha : a < 2 ^ 63) (hb : b < 2 ^ 63) : iand .i64 (a : Int) (b : Int) = ((a &&& b : Nat) : Int) := by
  show IntKind.i64.wrap ((BitVec.ofInt 64 (a : Int) &&& BitVec.ofInt 64 (b : Int)).toNat : Int) = _
  rw [BitVec.toNat_and, ofInt_u64 a (by omega), ofInt_u64 b (by omega), IntKind.wrap_i64]
  have : a &&& b ≤ a := Nat.and_le_left
  omega

/-! springs -/
end Go.Fw
