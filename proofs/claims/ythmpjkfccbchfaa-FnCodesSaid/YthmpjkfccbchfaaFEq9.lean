/- FnTurnsBetween: the turn between two vectors. No condition. -/
import Derived.Test.YthmpjkfccbchfaaFEq8
set_option linter.unusedVariables false
set_option linter.unusedSimpArgs false
namespace Go.Fw

/-! ### the law in rational numbers -/
section
variable (w a1 a2 a3 b1 b2 b3 : Rat)
end

section
variable (k w x y z a b c : Rat)
end

theorem cancel_r {a b c : Rat} (hc : 0 < c) (h : a * c ≤ b * c) : a ≤ b := by
  refine Rat.not_lt.1 fun hl => ?_
  have := Rat.mul_lt_mul_of_pos_right hl hc
  grind
theorem In.cancel {a M c : Rat} (hc : 0 < c) (h : In (a * c) (M * c)) : In a M := ⟨cancel_r hc (by have := h.1; grind), cancel_r hc h.2⟩

/-! ### words -/
theorem Ev.R2 {x : Nat} {n : Int} {N : Nat} (h : Ev x n 2 N) : R1 x = (n : Rat) * (1 / 4) := by
  have hw : w2 (-(2 : Nat) : Int) = 1 / 4 := by decide +kernel
  have h1 := h.2.1
  rw [hw] at h1
  exact h1
theorem QV.VE {v : dVec} (h : QV v) : ∃ x y z, Fw.VE v x y z 2 16 := by
  obtain ⟨⟨_, x, hx, _⟩, ⟨_, y, hy, _⟩, _, z, hz, _⟩ := h
  exact ⟨x, y, z, hx, hy, hz⟩

theorem big64 : (1000 : Rat) ≤ w2 (top .f64) := by
  have h : w2 10 ≤ w2 (top .f64) := w2_le (by decide)
  have e : w2 10 = 1024 := by decide +kernel
  grind

end Go.Fw
