/- Laws on numbers: bits, neighbours. No condition. -/
import Derived.Test.YthmpjkfccbchfaaFPure
import Derived.Test.YthmpjkfccbchfaaSDraw1
import Derived.Test.YthmpjkfccbchfaaFwE
set_option linter.unusedVariables false
set_option linter.unusedSimpArgs false
namespace Go.Fw

theorem rt_B10Number {code : List Int} (h : ∀ x ∈ code, 0 ≤ x ∧ x ≤ 255) (hl : code.length ≤ 4294967296) : Ret (g_s_B10Number code) (okF .f32) := by
  unfold g_s_B10Number
  refine Ret.bind ((rt_one 2 (okS_from h hl) (by omega) (by omega)).mono fun y hy => Ret.cond (fun _ => ?_) fun _ => ?_)
  · exact Ret.bind ((rt_pick 65536 hy (by omega) (by omega)).mono fun z hz => Ret.bind ((rt_pick 65536 hz.2 (by omega) (by omega)).mono fun u hu => Ret.pure (l01From_okF _)))
  · exact Ret.bind ((rt_DrawFloat hy (by omega)).mono fun z hz => Ret.pure hz.1)

theorem b10Long_F {code more : List Int} (h : t_w_b10Long code more = false) : code.length ≤ 4294967296 ∧ more.length ≤ 4294967296 := by
  unfold t_w_b10Long at h
  cases h1 : ilt 1048576 (code.length : Int)
  · rw [h1, cond_f] at h
    (simp only [ilt_T, ilt_F, ile_T, ile_F, ieq_T, ieq_F, bnot_T, bnot_F, ble_T, ble_F, nz_T, nz_F, nonneg_T, nonneg_F] at h1)
    (simp only [ilt_T, ilt_F, ile_T, ile_F, ieq_T, ieq_F, bnot_T, bnot_F, ble_T, ble_F, nz_T, nz_F, nonneg_T, nonneg_F] at h)
    omega
  · rw [h1] at h; cases h

/-- A word that a not-a-number has not. -/
theorem word_ok {n : Nat} (hn : n < 2 ^ 32) (h : isNan .f32 n = false) : t_float32frombits (n : Int) = n := by
  unfold t_float32frombits
  rw [Int.toNat_natCast]
  exact canon_num h

theorem wrap32 {n : Int} (h : 0 ≤ n) (h' : n < 2 ^ 32) : IntKind.u32.wrap n = n := by
  rw [IntKind.wrap_u32]; omega

end Go.Fw
