/- The reference's functions and the program's compute the same: mixed skins. No condition. -/
import Derived.Test.YtobcfldhacdpiaaGreatBEq6
set_option linter.unusedVariables false
set_option linter.unusedSimpArgs false
namespace Go.Fw

/-! mixed turns -/
theorem se_InnerOfTurns (a b : dTurn) : t_i_InnerOfTurns a b = t_s_l02Inner a b := rfl
theorem se_LengthOfTurn (t : dTurn) : g_i_LengthOfTurn t = g_s_l01Sqrt (t_s_l02Inner t t) := by
  unfold g_i_LengthOfTurn
  rw [se_RootNumber, se_InnerOfTurns, opt_bind_pure]
theorem se_MendTurn (t : dTurn) : g_i_MendTurn t = g_s_l02Mend t := by
  unfold g_i_MendTurn g_s_l02Mend
  rw [se_LengthOfTurn]
  congr 1
  funext y
  unfold t_i_isLength
  rw [se_IsFinite]
  cases t_s_l01Finite y <;> cases feq .f32 y 0 <;> rfl
theorem rt_l02Mend (t : dTurn) : Ret (g_s_l02Mend t) fun _ => True := by
  unfold g_s_l02Mend
  refine Ret.bind' (rt_l01Sqrt (fadd_okF _ _ _)) fun y _ _ => ?_
  cases feq .f32 y 0
  · cases t_s_l01Finite y <;> exact Ret.pure trivial
  · exact Ret.pure trivial

/-! mixed skins -/
end Go.Fw
