/- What the laws' own functions compute. No condition. -/
import Derived.Test.YtalhiopcegnobaaFwE
import Derived.Test.YtalhiopcegnobaaAPure
set_option linter.unusedVariables false
set_option linter.unusedSimpArgs false
namespace Go.Fw
end Go.Fw
