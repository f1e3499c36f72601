/- The reference's functions and the program's compute the same (second part). No condition. -/
import Derived.Test.YtobcfldhacdpiaaGreatAEq1
set_option linter.unusedVariables false
set_option linter.unusedSimpArgs false
namespace Go.Fw

/-! ValidString -/
/-! FarthestMove -/
theorem se_RootNumber (x : Nat) : g_i_RootNumber x = g_s_l01Sqrt x := by
  unfold g_i_RootNumber g_s_l01Sqrt g_s_l01Narrow
  simp only [opt_bind_pure]
theorem rt_l01Sqrt {x : Nat} (hx : okF .f32 x) : Ret (g_s_l01Sqrt x) fun r => okF .f32 r := by
  unfold g_s_l01Sqrt g_s_l01Narrow
  simp only [opt_bind_pure]
  obtain ⟨r, hr, hk⟩ := root_okF hx.lt32
  exact ⟨r, hr, hk⟩
/-! NumbersOfPose -/
end Go.Fw
