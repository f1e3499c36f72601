/- The reference's functions and the program's compute the same: numbers that are flushed, springs. No condition. -/
import Derived.Test.YtalhiopcegnobaaAEq3
import Derived.Test.YtalhiopcegnobaaSThy
import Derived.Test.YtalhiopcegnobaaFwE
set_option linter.unusedVariables false
set_option linter.unusedSimpArgs false
namespace Go.Fw
/-- Not zero, and subnormal. -/
def sub32 (x : Nat) : Bool := decide (x % 2 ^ 31 ≠ 0) && decide (x % 2 ^ 31 < 2 ^ 23)
theorem nan_rung {x : Nat} (h : isNan .f32 x = true) : 2139095040 < x % 2 ^ 31 := by
  have h1 : (FloatKind.f32.format.read x).isNaN = true := h
  have hsw : FloatKind.f32.format.signWeight = 2 ^ 31 := rfl
  have hI : FloatKind.f32.format.infRung = 2139095040 := rfl
  rcases read_cases FloatKind.f32.format x with ⟨_, h2⟩ | ⟨_, _, h2⟩ | ⟨_, h2⟩ | ⟨h3, _⟩
  · rw [h2] at h1; cases h1
  · rw [h2] at h1; cases h1
  · rw [h2] at h1; cases h1
  · rw [hsw, hI] at h3; exact h3
theorem feq_zero {x : Nat} (hx : x < 2 ^ 32) : feq .f32 x 0 = decide (x % 2 ^ 31 = 0) := by
  cases hf : feq .f32 x 0
  · cases hn : isNan .f32 x
    · by_cases h : x % 2 ^ 31 = 0
      · exfalso
        rcases zero_cases hx h with rfl | rfl
        · revert hf; decide +kernel
        · revert hf; decide +kernel
      · simp [h]
    · have := nan_rung hn
      rw [decide_eq_false (by omega)]
  · rcases feq_spec (k := .f32) hx (by decide) hf with h | ⟨h, _⟩
    · subst h; rfl
    · have hsw : FloatKind.f32.format.signWeight = 2 ^ 31 := rfl
      rw [hsw] at h
      rw [decide_eq_true h]
theorem and63 (b : Nat) (h : b < 2 ^ 64) : iand .u64 b (2 ^ 63) = ((b / 2 ^ 63 * 2 ^ 63 : Nat) : Int) := by
  have := u64_and_nat b (2 ^ 63) (by omega) (by decide)
  have e : ((2 ^ 63 : Nat) : Int) = 2 ^ 63 := by decide
  rw [e] at this
  refine Eq.trans this ?_
  rw [nat_bit, show b / 2 ^ 63 % 2 = b / 2 ^ 63 by omega]

theorem back64 (q : Nat) (hq : q < 2) : fconv .f64 .f32 (canon .f64 (q * 2 ^ 63 + 0 % 2 ^ 63)) = some (q * 2 ^ 31) := by
  rcases Nat.lt_or_ge q 1 with h1 | h1
  · rw [show q = 0 by omega]; decide +kernel
  · rw [show q = 1 by omega]; decide +kernel
theorem zero_num : isNan .f64 0 = false := by decide +kernel
theorem sub_num {x : Nat} (hs : sub32 x = true) : isNan .f32 x = false := by
  cases hn : isNan .f32 x
  · rfl
  · have h1 := nan_rung hn
    unfold sub32 at hs
    rw [Bool.and_eq_true, decide_eq_true_eq, decide_eq_true_eq] at hs
    omega

/-- Subnormal numbers become zeros of their sign. -/
def flush (x : Nat) : Nat := bif sub32 x then x / 2 ^ 31 * 2 ^ 31 else x

theorem c_i_IsSubnormal {x : Nat} (h : okF .f32 x) : t_i_IsSubnormal x = sub32 x := by
  have hx := h.lt32
  unfold t_i_IsSubnormal t_mathabs
  rw [feq_zero hx]
  unfold sub32
  by_cases h0 : x % 2 ^ 31 = 0
  · simp [h0]
  · rw [decide_eq_false h0, decide_eq_true h0]
    simp only [bnot_f, cond_t, Bool.true_and]
    cases hn : isNan .f32 x
    · exact small_iff hn h0 (fconv_wide hx)
    · have := nan_rung hn
      rw [fwide_nan hx hn, decide_eq_false (by omega)]
      have : abs64 (qnan .f64) = qnan .f64 := by decide +kernel
      rw [this, flt_nan (isNan_qnan .f64)]

/-- The first number with the second one's sign. -/
def sign64 (x s : Nat) : Nat := canon .f64 (s / 2 ^ 63 * 2 ^ 63 + x % 2 ^ 63)
theorem c_math_Copysign {x s : Nat} (hx : x < 2 ^ 64) (hs : s < 2 ^ 64) (nx : isNan .f64 x = false) (ns : isNan .f64 s = false) : g_math_Copysign x s = some (sign64 x s) := by
  unfold g_math_Copysign g_float64bits
  rw [nx, ns]
  simp only [cond_f, opt_bind_some]
  have h1 := andNot63 x hx
  have h2 := and63 s hs
  rw [show ((9223372036854775808 : Int)) = 2 ^ 63 by decide, h1, h2]
  have hm : x % 2 ^ 63 < 2 ^ 63 := Nat.mod_lt _ (by decide)
  have hq : s / 2 ^ 63 < 2 := Nat.div_lt_of_lt_mul (by omega)
  have h3 : ior .u64 ((x % 2 ^ 63 : Nat) : Int) ((s / 2 ^ 63 * 2 ^ 63 : Nat) : Int) = (((x % 2 ^ 63) ||| (s / 2 ^ 63 * 2 ^ 63) : Nat) : Int) := u64_or_nat _ _ (by omega) (by omega)
  rw [h3, Nat.or_comm, nat_join 63 _ _ (Nat.mul_mod_left _ _) hm]
  rfl

theorem c_i_FlushNumber {x : Nat} (h : okF .f32 x) : g_i_FlushNumber x = some (flush x) := by
  unfold g_i_FlushNumber flush
  rw [c_i_IsSubnormal h]
  cases hs : sub32 x
  · rfl
  · obtain ⟨a, ha, hna, hla, hda⟩ := widen h.lt32 (sub_num hs)
    rw [fconv_wide h.lt32] at ha
    cases ha
    have hq : x / 2 ^ 31 < 2 := Nat.div_lt_of_lt_mul h.lt32
    rw [cond_t, cond_t, c_math_Copysign (by decide) hla zero_num hna, opt_bind_some]
    unfold sign64
    rw [hda, back64 _ hq, opt_bind_some]

theorem flush_okF {x : Nat} (h : okF .f32 x) : okF .f32 (flush x) := by
  unfold flush
  cases hs : sub32 x
  · exact h
  · have hq : x / 2 ^ 31 < 2 := Nat.div_lt_of_lt_mul h.lt32
    rw [cond_t]
    rcases Nat.lt_or_ge (x / 2 ^ 31) 1 with h1 | h1
    · rw [show x / 2 ^ 31 = 0 by omega]; exact ⟨by decide, by decide +kernel⟩
    · rw [show x / 2 ^ 31 = 1 by omega]; exact ⟨by decide, by decide +kernel⟩

/-! springs -/
def speedOf (p v s d goal : Nat) : Nat := flush (fmul .f32 (fadd .f32 v (fmul .f32 s (fsub .f32 goal p))) d)
def stepOf (s : dTurn) (goal : Nat) : dTurn := (flush (fadd .f32 s.1 (speedOf s.1 s.2.1 s.2.2.1 s.2.2.2.1 goal)), (speedOf s.1 s.2.1 s.2.2.1 s.2.2.2.1 goal, s.2.2))
theorem c_i_StepSpring (s : dTurn) (goal : Nat) : g_i_StepSpring s goal = some (stepOf s goal) := by
  unfold g_i_StepSpring g_i_drawn
  rw [c_i_FlushNumber (fmul_okF _ _ _), opt_bind_some, c_i_FlushNumber (fadd_okF _ _ _)]; rfl

end Go.Fw
