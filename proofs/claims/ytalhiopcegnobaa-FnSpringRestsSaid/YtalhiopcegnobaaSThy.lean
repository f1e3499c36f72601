/- What the laws' own functions compute. No condition. -/
import Derived.Test.YtalhiopcegnobaaAThy
import Derived.Test.YtalhiopcegnobaaSPure
set_option linter.unusedVariables false
set_option linter.unusedSimpArgs false
namespace Go.Fw
end Go.Fw
