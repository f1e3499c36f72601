/- The reference's functions and the program's compute the same: strings that hang. No condition. -/
import Derived.Test.YtobcfldhacdpiaaGreatAEq3
set_option linter.unusedVariables false
set_option linter.unusedSimpArgs false
namespace Go.Fw

/-! slices.Repeat of one element -/
/-! strings that hang -/
end Go.Fw
