/- The reference's functions and the program's compute the same (second part). No condition. -/
import Derived.Test.YthmpjkfccbchfaaAEq1
set_option linter.unusedVariables false
set_option linter.unusedSimpArgs false
namespace Go.Fw

/-! ValidString -/
/-! FarthestMove -/
theorem se_RootNumber (x : Nat) : g_i_RootNumber x = g_s_l01Sqrt x := by
  unfold g_i_RootNumber g_s_l01Sqrt g_s_l01Narrow
  simp only [opt_bind_pure]
theorem se_LongOf (v : dVec) : g_i_LongOf v = g_s_l01Long v := by
  unfold g_i_LongOf g_s_l01Long
  rw [se_RootNumber, se_InnerOf]
/-! NumbersOfPose -/
end Go.Fw
