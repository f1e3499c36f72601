/- FnRotations: turned vectors. No condition. -/
import Derived.Test.YthmpjkfccbchfaaFEq6
set_option linter.unusedVariables false
set_option linter.unusedSimpArgs false
namespace Go.Fw

section
variable (w x y z a b c : Rat)
end

/-! ### lengths of vectors -/
theorem NT.comp {t : dTurn} (h : NT t) : In (R1 t.1) (1000001 / 1000000) ∧ In (R1 t.2.1) (1000001 / 1000000) ∧ In (R1 t.2.2.1) (1000001 / 1000000) ∧ In (R1 t.2.2.2.1) (1000001 / 1000000) := by
  have p1 := sq_nn (R1 t.1); have p2 := sq_nn (R1 t.2.1); have p3 := sq_nn (R1 t.2.2.1); have p4 := sq_nn (R1 t.2.2.2.1)
  have q2 := h.2.2.2
  exact ⟨In.of_sq (by grind) (by decide +kernel), In.of_sq (by grind) (by decide +kernel), In.of_sq (by grind) (by decide +kernel), In.of_sq (by grind) (by decide +kernel)⟩

end Go.Fw
