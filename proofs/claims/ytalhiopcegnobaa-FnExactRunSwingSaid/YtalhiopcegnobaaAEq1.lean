/- The reference's functions and the program's compute the same (first part). No condition. -/
import Derived.Test.YtalhiopcegnobaaFwE
import Derived.Test.YtalhiopcegnobaaAThy
set_option linter.unusedVariables false
set_option linter.unusedSimpArgs false
namespace Go.Fw

/-! MiddleOf -/
/-! PartsOfFrames -/
theorem l00In_T (a b c : Int) : (t_s_l00In a b c = true) = (b ≤ a ∧ a ≤ c) := by
  unfold t_s_l00In ile
  by_cases h : b ≤ a <;> simp [h]
theorem l00In_F (a b c : Int) : (t_s_l00In a b c = false) = ¬ (b ≤ a ∧ a ≤ c) := by
  unfold t_s_l00In ile
  by_cases h : b ≤ a <;> simp [h]

/-! WeightsAt -/
end Go.Fw
