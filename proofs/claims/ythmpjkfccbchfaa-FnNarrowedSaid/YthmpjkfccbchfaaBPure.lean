/- What the functions compute, as plain Lean functions. No condition. -/
import Derived.Test.YthmpjkfccbchfaaAPure
set_option linter.unusedVariables false
namespace Go.Fw
noncomputable section
def g_s_l01From (n : Int) : Option (Nat) :=
  some (t_float32frombits (iconv .u32 n))

def t_s_l01From (n : Int) : Nat :=
  (t_float32frombits (iconv .u32 n))

theorem q_s_l01From (n : Int) : g_s_l01From n = some (t_s_l01From n) := rfl


end
end Go.Fw
