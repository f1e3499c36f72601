/- FnMended: a mended turn has nearly the length 1. No condition. -/
import Derived.Test.YthmpjkfccbchfaaFEq5
set_option linter.unusedVariables false
set_option linter.unusedSimpArgs false
namespace Go.Fw

theorem fmax_le {a b : Nat} (fa : fin .f64 a) (fb : fin .f64 b) {M : Rat} (ha : R .f64 a ≤ M) (hb : R .f64 b ≤ M) : fin .f64 (fmax .f64 a b) ∧ R .f64 (fmax .f64 a b) ≤ M := by
  unfold fmax
  rw [order_fin fa fb]
  cases compare (Z .f64 a) (Z .f64 b)
  · exact ⟨fb, hb⟩
  · dsimp only
    cases (FloatKind.f64.decode a).neg
    · exact ⟨fa, ha⟩
    · exact ⟨fb, hb⟩
  · exact ⟨fa, ha⟩

theorem gap_R {a b : Nat} (fa : fin .f64 a) (fb : fin .f64 b) {M : Rat} (h : In (R .f64 a - R .f64 b) M) (hM : M ≤ 1000000000000) : fin .f64 (t_w_r8Gap a b) ∧ R .f64 (t_w_r8Gap a b) ≤ M * (1000001 / 1000000) := by
  have hT : M ≤ w2 (top .f64) := Rat.le_trans hM (by decide +kernel)
  have hM0 : 0 ≤ M := by have := h.1; have := h.2; grind
  have h' : In (R .f64 b - R .f64 a) M := ⟨by have := h.2; grind, by have := h.1; grind⟩
  obtain ⟨s1, s2⟩ := sub_R fa fb h hT
  obtain ⟨s3, s4⟩ := sub_R fb fa h' hT
  rw [un64] at s2 s4
  exact fmax_le s1 s3 (by have := s2.2; have := h.2; grind) (by have := s4.2; have := h'.2; grind)

theorem fin64_dec {x : Nat} (h : Nat.blt (x % FloatKind.f64.format.signWeight) FloatKind.f64.format.infRung = true) : fin .f64 x := (fin_dec _ _).2 h

theorem one64 : fin .f64 4607182418800017408 ∧ R .f64 4607182418800017408 = 1 := ⟨fin64_dec (by decide +kernel), by decide +kernel⟩

/-- A number of quarters. -/
theorem Quart.R {x : Nat} (h : Quart x) : okF .f32 x ∧ fin .f32 x ∧ In (R1 x) 4 ∧ (x = 0 ∨ 1 / 16 ≤ R1 x * R1 x) ∧ ∃ n : Int, R1 x = (n : Rat) / 4 := by
  obtain ⟨h0, n, ⟨h1, h2, h3⟩, h4⟩ := h
  have hw : w2 (-(2 : Nat) : Int) = 1 / 4 := by decide +kernel
  rw [hw] at h2
  have e : R1 x = (n : Rat) * (1 / 4) := h2
  have n1 : (n : Rat) ≤ ((16 : Int) : Rat) := Rat.intCast_le_intCast.2 (by omega)
  have n2 : ((-16 : Int) : Rat) ≤ (n : Rat) := Rat.intCast_le_intCast.2 (by omega)
  have e16 : ((16 : Int) : Rat) = 16 := rfl
  have em16 : ((-16 : Int) : Rat) = -16 := rfl
  rw [e16] at n1
  rw [em16] at n2
  refine ⟨h0, h1, by rw [e]; exact ⟨by grind, by grind⟩, ?_, n, by rw [e]; grind⟩
  by_cases hn : n = 0
  · exact .inl (h4 hn)
  · right
    have h5 : (1 : Int) ≤ n * n := by
      rcases Int.lt_or_gt_of_ne hn with h | h
      · exact Int.mul_pos_of_neg_of_neg h h
      · exact Int.mul_pos h h
    have h6 := Rat.intCast_le_intCast.2 h5
    rw [Rat.intCast_mul] at h6
    have e1 : ((1 : Int) : Rat) = 1 := rfl
    rw [e1] at h6
    rw [e]; grind

/-- A turn of nearly the length 1. -/
def NT (t : dTurn) : Prop := okT t ∧ finT t ∧ Near (R1 t.1 * R1 t.1 + R1 t.2.1 * R1 t.2.1 + R1 t.2.2.1 * R1 t.2.2.1 + R1 t.2.2.2.1 * R1 t.2.2.2.1) 1 (1 / 1600000)

end Go.Fw
