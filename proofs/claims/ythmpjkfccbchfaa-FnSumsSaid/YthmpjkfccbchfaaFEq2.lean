/- The law of narrowing. No condition. -/
import Derived.Test.YthmpjkfccbchfaaFEq1
import Derived.Test.YthmpjkfccbchfaaFwE
set_option linter.unusedVariables false
set_option linter.unusedSimpArgs false
namespace Go.Fw

theorem c_s_SameNumber {x y : Nat} (hx : okF .f32 x) (hy : okF .f32 y) : g_s_SameNumber x y = some (same x y) := by
  unfold g_s_SameNumber
  rw [c_s_l01Same hx hy]; rfl

end Go.Fw
