/- What the laws' own functions compute. No condition. -/
import Derived.Test.YtalhiopcegnobaaFwE
import Derived.Test.YtalhiopcegnobaaAPure
set_option linter.unusedVariables false
set_option linter.unusedSimpArgs false
namespace Go.Fw
theorem c_w_sameFloat (a : Nat) : t_w_sameFloat a a = true := by
  unfold t_w_sameFloat; cases feq .f64 a a <;> cases feq .f64 a 0 <;> simp [beqB_self]
end Go.Fw
