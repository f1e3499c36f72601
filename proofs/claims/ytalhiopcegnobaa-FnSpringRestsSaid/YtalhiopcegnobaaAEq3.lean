/- The reference's functions and the program's compute the same (third part). No condition. -/
import Derived.Test.YtalhiopcegnobaaAEq2
set_option linter.unusedVariables false
set_option linter.unusedSimpArgs false
namespace Go.Fw

/-! ValidRecording -/
/-! ChangedNumbers -/
/-- The same number, bit for bit, all not-a-numbers being one. -/
def same (x y : Nat) : Bool := Nat.beq x y
theorem same_iff {x y : Nat} : same x y = true ↔ x = y := ⟨Nat.eq_of_beq_eq_true, fun h => by subst h; exact Nat.beq_refl x⟩
theorem same_ne {x y : Nat} (h : x ≠ y) : same x y = false := by
  cases hs : same x y
  · rfl
  · exact absurd (same_iff.1 hs) h

theorem zero_cases {x : Nat} (hx : x < 2 ^ 32) (h : x % 2 ^ 31 = 0) : x = 0 ∨ x = 2 ^ 31 := by omega
theorem c_math_Signbit {x : Nat} (hx : x < 2 ^ 64) (hn : isNan .f64 x = false) : g_math_Signbit x = some (decide (2 ^ 63 ≤ x)) := by
  unfold g_math_Signbit g_float64bits
  rw [hn, cond_f, opt_bind_some]
  congr 1
  unfold iconv ilt
  rw [IntKind.wrap_i64]
  congr 1
  simp only [eq_iff_iff]
  omega
theorem c_i_SameNumber {x y : Nat} (hx : okF .f32 x) (hy : okF .f32 y) : g_i_SameNumber x y = some (same x y) := by
  unfold g_i_SameNumber
  rw [feq_self, feq_self]
  have lx := hx.lt32
  have ly := hy.lt32
  cases nx : isNan .f32 x <;> cases ny : isNan .f32 y <;> simp only [bnot_t, bnot_f, cond_f, cond_t]
  · obtain ⟨a, ha, hna, hla, hda⟩ := widen lx nx
    obtain ⟨b, hb, hnb, hlb, hdb⟩ := widen ly ny
    rw [fconv_wide lx] at ha
    rw [fconv_wide ly] at hb
    cases ha; cases hb
    rw [c_math_Signbit hla hna, c_math_Signbit hlb hnb]
    simp only [opt_bind_some]
    cases he : feq .f32 x y
    · rw [cond_f, same_ne fun e => by rw [← e, feq_self, nx] at he; cases he]
    · rw [cond_t]
      congr 1
      rw [Bool.eq_iff_iff, same_iff]
      have sa : decide (2 ^ 63 ≤ fwide x) = decide (2 ^ 31 ≤ x) := by
        congr 1; simp only [eq_iff_iff]; omega
      have sb : decide (2 ^ 63 ≤ fwide y) = decide (2 ^ 31 ≤ y) := by
        congr 1; simp only [eq_iff_iff]; omega
      rw [sa, sb]
      rcases feq_spec (k := .f32) hx.lt hy.lt he with h | ⟨h1, h2⟩
      · subst h; simp
      · rcases zero_cases lx h1 with e1 | e1 <;> rcases zero_cases ly h2 with e2 | e2 <;> subst e1 <;> subst e2 <;> decide
  · rw [same_ne fun e => by rw [e, ny] at nx; cases nx]
  · rw [same_ne fun e => by rw [e, ny] at nx; cases nx]
  · rw [hx.nan nx, hy.nan ny]; rfl

/-! EdgesOf -/
end Go.Fw
