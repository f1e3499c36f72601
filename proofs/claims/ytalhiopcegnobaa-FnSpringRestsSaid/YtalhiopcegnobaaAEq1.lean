/- The reference's functions and the program's compute the same (first part). No condition. -/
import Derived.Test.YtalhiopcegnobaaFwE
import Derived.Test.YtalhiopcegnobaaAThy
set_option linter.unusedVariables false
set_option linter.unusedSimpArgs false
namespace Go.Fw

/-! MiddleOf -/
/-! PartsOfFrames -/
/-! WeightsAt -/
end Go.Fw
