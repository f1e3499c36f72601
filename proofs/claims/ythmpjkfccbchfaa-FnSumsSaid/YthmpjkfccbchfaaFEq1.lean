/- Laws on numbers: bits, neighbours. No condition. -/
import Derived.Test.YthmpjkfccbchfaaFPure
import Derived.Test.YthmpjkfccbchfaaSDraw1
import Derived.Test.YthmpjkfccbchfaaFwE
set_option linter.unusedVariables false
set_option linter.unusedSimpArgs false
namespace Go.Fw

theorem b10Long_F {code more : List Int} (h : t_w_b10Long code more = false) : code.length ≤ 4294967296 ∧ more.length ≤ 4294967296 := by
  unfold t_w_b10Long at h
  cases h1 : ilt 1048576 (code.length : Int)
  · rw [h1, cond_f] at h
    (simp only [ilt_T, ilt_F, ile_T, ile_F, ieq_T, ieq_F, bnot_T, bnot_F, ble_T, ble_F, nz_T, nz_F, nonneg_T, nonneg_F] at h1)
    (simp only [ilt_T, ilt_F, ile_T, ile_F, ieq_T, ieq_F, bnot_T, bnot_F, ble_T, ble_F, nz_T, nz_F, nonneg_T, nonneg_F] at h)
    omega
  · rw [h1] at h; cases h

end Go.Fw
