/- The reference's functions and the program's compute the same (second part). No condition. -/
import Derived.Test.YthmpjkfccbchfaaAEq1
set_option linter.unusedVariables false
set_option linter.unusedSimpArgs false
namespace Go.Fw

/-! ValidString -/
/-! FarthestMove -/
theorem se_RootNumber (x : Nat) : g_i_RootNumber x = g_s_l01Sqrt x := by
  unfold g_i_RootNumber g_s_l01Sqrt g_s_l01Narrow
  simp only [opt_bind_pure]
/-! NumbersOfPose -/
end Go.Fw
