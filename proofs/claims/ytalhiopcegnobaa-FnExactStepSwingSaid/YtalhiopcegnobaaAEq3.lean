/- The reference's functions and the program's compute the same (third part). No condition. -/
import Derived.Test.YtalhiopcegnobaaAEq2
set_option linter.unusedVariables false
set_option linter.unusedSimpArgs false
namespace Go.Fw

/-! ValidRecording -/
/-! ChangedNumbers -/
/-- The same number, bit for bit, all not-a-numbers being one. -/
def same (x y : Nat) : Bool := Nat.beq x y
theorem c_s_l01Bits {x : Nat} (hx : okF .f32 x) : g_s_l01Bits x = some (x : Int) := by
  unfold g_s_l01Bits g_float32bits
  rw [feq_self]
  have := hx.lt32
  cases hn : isNan .f32 x
  · simp only [bnot_t, bnot_f, cond_f, opt_bind_some]; rw [iconv_ok (by omega) (by omega)]
  · rw [hx.nan hn]; rfl
theorem zero_cases {x : Nat} (hx : x < 2 ^ 32) (h : x % 2 ^ 31 = 0) : x = 0 ∨ x = 2 ^ 31 := by omega
/-! EdgesOf -/
end Go.Fw
