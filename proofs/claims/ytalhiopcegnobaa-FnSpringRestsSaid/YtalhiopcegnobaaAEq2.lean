/- The reference's functions and the program's compute the same (second part). No condition. -/
import Derived.Test.YtalhiopcegnobaaAEq1
set_option linter.unusedVariables false
set_option linter.unusedSimpArgs false
namespace Go.Fw

/-! ValidString -/
/-! FarthestMove -/
/-! NumbersOfPose -/
end Go.Fw
