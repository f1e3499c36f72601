/- FnRotations: a turn of nearly the length 1 keeps lengths. No condition. -/
import Derived.Test.YthmpjkfccbchfaaFEq7
set_option linter.unusedVariables false
set_option linter.unusedSimpArgs false
namespace Go.Fw

section
variable (w x y z a b c d e f : Rat)
end

theorem near_err' {x a e : Rat} (h : Near x a e) : ∃ g, x = a + g ∧ In g e := ⟨x - a, by grind, by have := h.1; grind, by have := h.2; grind⟩

theorem QV.R {v : dVec} (h : QV v) : finV v ∧ In (R1 v.1) 4 ∧ In (R1 v.2.1) 4 ∧ In (R1 v.2.2.1) 4 := ⟨⟨h.1.R.2.1, h.2.1.R.2.1, h.2.2.R.2.1⟩, h.1.R.2.2.1, h.2.1.R.2.2.1, h.2.2.R.2.2.1⟩

end Go.Fw
