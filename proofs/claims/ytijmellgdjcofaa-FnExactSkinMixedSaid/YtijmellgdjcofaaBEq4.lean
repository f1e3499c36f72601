/- The reference's functions and the program's compute the same: even weights. No condition. -/
import Derived.Test.YtijmellgdjcofaaBEq3
set_option linter.unusedVariables false
set_option linter.unusedSimpArgs false
namespace Go.Fw

theorem point_T {p : dSkinPoint} (h : t_s_l09Point p = true) : (1 ≤ p.2.1.length ∧ p.2.1.length ≤ 4) ∧ p.2.2.1.length = p.2.1.length := by
  unfold t_s_l09Point at h
  simp only [bif_T, ile_T, ieq_T, reduceCtorEq, and_false, or_false] at h
  omega

end Go.Fw
