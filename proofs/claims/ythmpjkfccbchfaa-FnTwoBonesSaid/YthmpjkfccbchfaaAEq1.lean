/- The reference's functions and the program's compute the same (first part). No condition. -/
import Derived.Test.YthmpjkfccbchfaaFwE
import Derived.Test.YthmpjkfccbchfaaAThy
set_option linter.unusedVariables false
set_option linter.unusedSimpArgs false
namespace Go.Fw

/-! MiddleOf -/
theorem se_InnerOf (a b : dVec) : t_i_InnerOf a b = t_s_l01Inner a b := rfl

/-! PartsOfFrames -/
/-! WeightsAt -/
end Go.Fw
