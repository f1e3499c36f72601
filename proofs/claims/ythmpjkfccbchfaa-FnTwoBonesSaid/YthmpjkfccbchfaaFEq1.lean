/- Laws on numbers: bits, neighbours. No condition. -/
import Derived.Test.YthmpjkfccbchfaaFPure
import Derived.Test.YthmpjkfccbchfaaSDraw1
import Derived.Test.YthmpjkfccbchfaaFwE
set_option linter.unusedVariables false
set_option linter.unusedSimpArgs false
namespace Go.Fw

end Go.Fw
