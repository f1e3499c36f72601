/- A mended turn has nearly the length 1. No condition. -/
import Derived.Test.YthmpjkfccbchfaaFEq4
import Derived.Test.YthmpjkfccbchfaaFwE
set_option linter.unusedVariables false
set_option linter.unusedSimpArgs false
namespace Go.Fw

/-- The number of a word of single precision. -/
abbrev R1 (x : Nat) : Rat := R .f32 x
def finT (t : dTurn) : Prop := fin .f32 t.1 ∧ fin .f32 t.2.1 ∧ fin .f32 t.2.2.1 ∧ fin .f32 t.2.2.2.1
def finV (t : dVec) : Prop := fin .f32 t.1 ∧ fin .f32 t.2.1 ∧ fin .f32 t.2.2.1

theorem R_zero (k : FloatKind) : R k 0 = 0 := by cases k <;> decide +kernel

theorem isLength_R {n : Nat} (h : fin .f32 n) : t_i_isLength n = decide (R1 n ≠ 0) := by
  unfold t_i_isLength t_i_IsFinite
  rw [(finite_iff .f32 n).2 h, cond_t, feq_R h (zero_fin .f32), R_zero]
  by_cases h0 : R1 n = 0
  · rw [decide_eq_true h0]; simp [h0]
  · rw [decide_eq_false h0]; simp [h0]

theorem div_mul {a b : Rat} (h : b ≠ 0) : a / b * b = a := by
  rw [Rat.div_def, Rat.mul_assoc, Rat.inv_mul_cancel _ h, Rat.mul_one]

/-- A quotient. -/
theorem quot_R {x n : Nat} (hx : fin .f32 x) (hn : fin .f32 n) (h0 : R1 n ≠ 0) {M : Rat} (hM : In (R1 x / R1 n) M) (hM2 : M ≤ 1000000) :
    fin .f32 (fdiv .f32 x n) ∧ Near (R1 (fdiv .f32 x n)) (R1 x / R1 n) (8 / 5 * M * u32 + e32) := by
  have ht : 2 * M ≤ w2 (top .f32) := by have := big_top; unfold big32 at this; grind
  obtain ⟨h1, h2⟩ := div_R hx hn h0 (div_mul h0) hM ht
  rw [un32] at h2
  have := et_le .f32
  exact ⟨h1, h2.mono (by unfold u32 e32; grind)⟩

end Go.Fw
