/- The reference's functions and the program's compute the same (third part). No condition. -/
import Derived.Test.YthmpjkfccbchfaaAEq2
set_option linter.unusedVariables false
set_option linter.unusedSimpArgs false
namespace Go.Fw

/-! ValidRecording -/
/-! ChangedNumbers -/
/-- The same number, bit for bit, all not-a-numbers being one. -/
def same (x y : Nat) : Bool := Nat.beq x y
theorem same_iff {x y : Nat} : same x y = true ↔ x = y := ⟨Nat.eq_of_beq_eq_true, fun h => by subst h; exact Nat.beq_refl x⟩
theorem c_s_l01Bits {x : Nat} (hx : okF .f32 x) : g_s_l01Bits x = some (x : Int) := by
  unfold g_s_l01Bits g_float32bits
  rw [feq_self]
  have := hx.lt32
  cases hn : isNan .f32 x
  · simp only [bnot_t, bnot_f, cond_f, opt_bind_some]; rw [iconv_ok (by omega) (by omega)]
  · rw [hx.nan hn]; rfl
theorem c_s_l01Same {x y : Nat} (hx : okF .f32 x) (hy : okF .f32 y) : g_s_l01Same x y = some (same x y) := by
  unfold g_s_l01Same
  rw [c_s_l01Bits hx, c_s_l01Bits hy]
  simp only [opt_bind_some, Option.some.injEq]
  rw [Bool.eq_iff_iff, same_iff]
  unfold ieq
  simp; omega
/-! EdgesOf -/
end Go.Fw
