/- A mended turn has nearly the length 1. No condition. -/
import Derived.Test.YthmpjkfccbchfaaFEq4
import Derived.Test.YthmpjkfccbchfaaFwE
set_option linter.unusedVariables false
set_option linter.unusedSimpArgs false
namespace Go.Fw

/-- The number of a word of single precision. -/
abbrev R1 (x : Nat) : Rat := R .f32 x
def finT (t : dTurn) : Prop := fin .f32 t.1 ∧ fin .f32 t.2.1 ∧ fin .f32 t.2.2.1 ∧ fin .f32 t.2.2.2.1
def finV (t : dVec) : Prop := fin .f32 t.1 ∧ fin .f32 t.2.1 ∧ fin .f32 t.2.2.1

theorem R_zero (k : FloatKind) : R k 0 = 0 := by cases k <;> decide +kernel

theorem div_mul {a b : Rat} (h : b ≠ 0) : a / b * b = a := by
  rw [Rat.div_def, Rat.mul_assoc, Rat.inv_mul_cancel _ h, Rat.mul_one]

end Go.Fw
