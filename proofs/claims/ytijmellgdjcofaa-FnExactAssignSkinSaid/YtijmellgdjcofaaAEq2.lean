/- The reference's functions and the program's compute the same (second part). No condition. -/
import Derived.Test.YtijmellgdjcofaaAEq1
set_option linter.unusedVariables false
set_option linter.unusedSimpArgs false
namespace Go.Fw

/-! ValidString -/
/-! FarthestMove -/
theorem se_RootNumber (x : Nat) : g_i_RootNumber x = g_s_l01Sqrt x := by
  unfold g_i_RootNumber g_s_l01Sqrt g_s_l01Narrow
  simp only [opt_bind_pure]
theorem rt_l01Sqrt {x : Nat} (hx : okF .f32 x) : Ret (g_s_l01Sqrt x) fun r => okF .f32 r := by
  unfold g_s_l01Sqrt g_s_l01Narrow
  simp only [opt_bind_pure]
  obtain ⟨r, hr, hk⟩ := root_okF hx.lt32
  exact ⟨r, hr, hk⟩
theorem se_LongOf (v : dVec) : g_i_LongOf v = g_s_l01Long v := by
  unfold g_i_LongOf g_s_l01Long
  rw [se_RootNumber, se_InnerOf]
theorem rt_l01Long (v : dVec) : Ret (g_s_l01Long v) fun r => okF .f32 r := by
  unfold g_s_l01Long
  rw [opt_bind_pure]
  exact rt_l01Sqrt (fadd_okF _ _ _)

/-! NumbersOfPose -/
end Go.Fw
