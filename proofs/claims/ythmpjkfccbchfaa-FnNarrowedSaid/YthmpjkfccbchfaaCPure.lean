/- What the functions compute, as plain Lean functions. No condition. -/
import Derived.Test.YthmpjkfccbchfaaBPure
set_option linter.unusedVariables false
namespace Go.Fw
noncomputable section
end
end Go.Fw
