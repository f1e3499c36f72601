/- The reference's functions and the program's compute the same: numbers that are flushed, springs. No condition. -/
import Derived.Test.YthmpjkfccbchfaaAEq3
import Derived.Test.YthmpjkfccbchfaaSThy
import Derived.Test.YthmpjkfccbchfaaFwE
set_option linter.unusedVariables false
set_option linter.unusedSimpArgs false
namespace Go.Fw
/-! springs -/
end Go.Fw
