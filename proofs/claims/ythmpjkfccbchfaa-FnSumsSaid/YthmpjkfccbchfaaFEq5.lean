/- A mended turn has nearly the length 1. No condition. -/
import Derived.Test.YthmpjkfccbchfaaFEq4
import Derived.Test.YthmpjkfccbchfaaFwE
set_option linter.unusedVariables false
set_option linter.unusedSimpArgs false
namespace Go.Fw

theorem R_zero (k : FloatKind) : R k 0 = 0 := by cases k <;> decide +kernel

end Go.Fw
