/- What the laws' own functions compute. No condition. -/
import Derived.Test.YtalhiopcegnobaaCThy
import Derived.Test.YtalhiopcegnobaaSPure
set_option linter.unusedVariables false
set_option linter.unusedSimpArgs false
namespace Go.Fw
theorem c_w_toSwing (a : dTurn) : t_w_toSwing a = a := rfl
theorem c_w_eqSwing (a : dTurn) : t_w_eqSwing a a = true := by
  unfold t_w_eqSwing; simp only [opt_bind_some, cond_t, cond_f, bnot_t, bnot_f, cond_same, ieq_self, beqB_self, c_w_sameFloat]
end Go.Fw
