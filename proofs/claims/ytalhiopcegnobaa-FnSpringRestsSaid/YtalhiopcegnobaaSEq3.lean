/- The law of springs: goals that are cut anywhere, a point as three springs, flushed numbers. No condition. -/
import Derived.Test.YtalhiopcegnobaaSDraw1
set_option linter.unusedVariables false
set_option linter.unusedSimpArgs false
namespace Go.Fw

theorem stepOf_okT {s : dTurn} (g : Nat) (h : okT s) : okT (stepOf s g) := ⟨flush_okF (fadd_okF _ _ _), flush_okF (fmul_okF _ _ _), h.2.2.1, h.2.2.2⟩
theorem r8Long_F {code more : List Int} (h : t_w_r8Long code more = false) : code.length ≤ 4294967296 ∧ more.length ≤ 4294967296 := by
  unfold t_w_r8Long at h
  cases h1 : ilt 48 (code.length : Int)
  · rw [h1, cond_f] at h
    (simp only [ilt_T, ilt_F, ile_T, ile_F, ieq_T, ieq_F, bnot_T, bnot_F, ble_T, ble_F, nz_T, nz_F, nonneg_T, nonneg_F] at h1)
    (simp only [ilt_T, ilt_F, ile_T, ile_F, ieq_T, ieq_F, bnot_T, bnot_F, ble_T, ble_F, nz_T, nz_F, nonneg_T, nonneg_F] at h)
    omega
  · rw [h1] at h; cases h

end Go.Fw
