/- A mended turn has nearly the length 1. No condition. -/
import Derived.Test.YthmpjkfccbchfaaFEq4
import Derived.Test.YthmpjkfccbchfaaFwE
set_option linter.unusedVariables false
set_option linter.unusedSimpArgs false
namespace Go.Fw

/-- The number of a word of single precision. -/
abbrev R1 (x : Nat) : Rat := R .f32 x
def finT (t : dTurn) : Prop := fin .f32 t.1 ∧ fin .f32 t.2.1 ∧ fin .f32 t.2.2.1 ∧ fin .f32 t.2.2.2.1
def finV (t : dVec) : Prop := fin .f32 t.1 ∧ fin .f32 t.2.1 ∧ fin .f32 t.2.2.1

theorem R_zero (k : FloatKind) : R k 0 = 0 := by cases k <;> decide +kernel

theorem isLength_R {n : Nat} (h : fin .f32 n) : t_i_isLength n = decide (R1 n ≠ 0) := by
  unfold t_i_isLength t_i_IsFinite
  rw [(finite_iff .f32 n).2 h, cond_t, feq_R h (zero_fin .f32), R_zero]
  by_cases h0 : R1 n = 0
  · rw [decide_eq_true h0]; simp [h0]
  · rw [decide_eq_false h0]; simp [h0]

/-- The sum of four squares, as it is computed. -/
theorem inner_R {t : dTurn} {B : Rat} (hf : finT t) (h1 : In (R1 t.1) B) (h2 : In (R1 t.2.1) B) (h3 : In (R1 t.2.2.1) B) (h4 : In (R1 t.2.2.2.1) B) (hB : B ≤ 1024) :
    fin .f32 (t_i_InnerOfTurns t t) ∧ Near (R1 (t_i_InnerOfTurns t t)) (R1 t.1 * R1 t.1 + R1 t.2.1 * R1 t.2.1 + R1 t.2.2.1 * R1 t.2.2.1 + R1 t.2.2.2.1 * R1 t.2.2.2.1)
      ((R1 t.1 * R1 t.1 + R1 t.2.1 * R1 t.2.1 + R1 t.2.2.1 * R1 t.2.2.1 + R1 t.2.2.2.1 * R1 t.2.2.2.1) * (1 / 4000000) + 10 * e32) := by
  obtain ⟨f1, f2, f3, f4⟩ := hf
  have hB0 : 0 ≤ B := by have := h1.1; have := h1.2; grind
  have hBB : B * B ≤ 1048576 := by have := sq_le hB0 hB; grind
  -- squares
  have sq : ∀ x : Nat, fin .f32 x → In (R1 x) B → Ap (fmul .f32 x x) (R1 x * R1 x) (R1 x * R1 x * u32 + e32) ∧ 0 ≤ R1 x * R1 x ∧ R1 x * R1 x ≤ 1048576 := fun x hx hin => by
    have h := (hin.mul hin)
    have hp := sq_nn (R1 x)
    have a := (Ap.self hx).mul (Ap.self hx) hin hin (M := R1 x * R1 x) ⟨by grind, by grind⟩ (by have := h.2; unfold big32; grind)
    exact ⟨a.mono (by grind), hp, by have := h.2; grind⟩
  obtain ⟨a1, p1, q1⟩ := sq _ f1 h1
  obtain ⟨a2, p2, q2⟩ := sq _ f2 h2
  obtain ⟨a3, p3, q3⟩ := sq _ f3 h3
  obtain ⟨a4, p4, q4⟩ := sq _ f4 h4
  unfold t_i_InnerOfTurns
  generalize fmul .f32 t.1 t.1 = m1 at *
  generalize fmul .f32 t.2.1 t.2.1 = m2 at *
  generalize fmul .f32 t.2.2.1 t.2.2.1 = m3 at *
  generalize fmul .f32 t.2.2.2.1 t.2.2.2.1 = m4 at *
  generalize R1 t.1 * R1 t.1 = s1 at *
  generalize R1 t.2.1 * R1 t.2.1 = s2 at *
  generalize R1 t.2.2.1 * R1 t.2.2.1 = s3 at *
  generalize R1 t.2.2.2.1 * R1 t.2.2.2.1 = s4 at *
  have b1 := (a1.add a2 (M := s1 + s2) ⟨by grind, by grind⟩ (by unfold big32 u32 e32; grind)).mono (f := (s1 + s2) * (2001 / 1000 * u32) + 3 * e32) (by unfold u32 e32; grind)
  have b2 := (b1.add a3 (M := s1 + s2 + s3) ⟨by grind, by grind⟩ (by unfold big32 u32 e32; grind)).mono (f := (s1 + s2 + s3) * (3003 / 1000 * u32) + 5 * e32) (by unfold u32 e32; grind)
  have b3 := (b2.add a4 (M := s1 + s2 + s3 + s4) ⟨by grind, by grind⟩ (by unfold big32 u32 e32; grind)).mono (f := (s1 + s2 + s3 + s4) * (1 / 4000000) + 10 * e32) (by unfold u32 e32; grind)
  exact b3

/-- The length of a turn: its square is near the sum of the squares. -/
theorem len_R {t : dTurn} {B : Rat} (hf : finT t) (h1 : In (R1 t.1) B) (h2 : In (R1 t.2.1) B) (h3 : In (R1 t.2.2.1) B) (h4 : In (R1 t.2.2.2.1) B) (hB : B ≤ 1024)
    {S : Rat} (hS : S = R1 t.1 * R1 t.1 + R1 t.2.1 * R1 t.2.1 + R1 t.2.2.1 * R1 t.2.2.1 + R1 t.2.2.2.1 * R1 t.2.2.2.1) (hS0 : 1 / 1099511627776 ≤ S) :
    ∃ n, g_i_LengthOfTurn t = some n ∧ fin .f32 n ∧ n < 2 ^ 32 ∧ 0 ≤ R1 n ∧ Near (R1 n * R1 n) S (S * (1 / 2500000)) := by
  obtain ⟨g1, g2⟩ := inner_R hf h1 h2 h3 h4 hB
  rw [← hS] at g2
  have hB0 : 0 ≤ B := by have := h1.1; have := h1.2; grind
  have hSB : S ≤ 4194304 := by
    have := h1.sq; have := h2.sq; have := h3.sq; have := h4.sq
    have hBB := sq_le hB0 hB
    grind
  have lo := g2.1
  have hi := g2.2
  have hlt : t_i_InnerOfTurns t t < 2 ^ 32 := (fadd_okF _ _ _).lt32
  have hI0 : 0 ≤ R .f32 (t_i_InnerOfTurns t t) := by unfold e32 at *; grind
  have hI1 : R .f32 (t_i_InnerOfTurns t t) ≤ 1152921504606846976 := by unfold e32 at *; grind
  obtain ⟨r, r1, r2, r3, r4⟩ := root_R hlt g1 hI0 hI1
  refine ⟨r, ?_, r2, ?_, r3, ?_⟩
  · unfold g_i_LengthOfTurn g_i_RootNumber
    show Option.bind (Option.bind (fconv .f64 .f32 (t_mathsqrt (fwide _))) _) _ = _
    rw [r1]; rfl
  · exact (fconv_okF (mathsqrt_okF _).1 r1).lt32
  · have := r4.1
    have := r4.2
    unfold e32 at *
    exact ⟨by grind, by grind⟩

theorem div_mul {a b : Rat} (h : b ≠ 0) : a / b * b = a := by
  rw [Rat.div_def, Rat.mul_assoc, Rat.inv_mul_cancel _ h, Rat.mul_one]

/-- A quotient. -/
theorem quot_R {x n : Nat} (hx : fin .f32 x) (hn : fin .f32 n) (h0 : R1 n ≠ 0) {M : Rat} (hM : In (R1 x / R1 n) M) (hM2 : M ≤ 1000000) :
    fin .f32 (fdiv .f32 x n) ∧ Near (R1 (fdiv .f32 x n)) (R1 x / R1 n) (8 / 5 * M * u32 + e32) := by
  have ht : 2 * M ≤ w2 (top .f32) := by have := big_top; unfold big32 at this; grind
  obtain ⟨h1, h2⟩ := div_R hx hn h0 (div_mul h0) hM ht
  rw [un32] at h2
  have := et_le .f32
  exact ⟨h1, h2.mono (by unfold u32 e32; grind)⟩

theorem In.abs {a M : Rat} (h : In a M) : ∃ b, In a b ∧ b ≤ M ∧ b * b = a * a ∧ 0 ≤ b := by
  rcases Rat.le_total (a := 0) (b := a) with h0 | h0
  · exact ⟨a, ⟨by grind, by grind⟩, h.2, rfl, h0⟩
  · exact ⟨-a, ⟨by grind, by grind⟩, by have := h.1; grind, by grind, by grind⟩

/-- A quotient squared. -/
theorem quot_sq {x n : Nat} (hx : fin .f32 x) (hn : fin .f32 n) (h0 : R1 n ≠ 0) {M : Rat} (hM : In (R1 x / R1 n) M) (hM2 : M ≤ 4) :
    Near (R1 (fdiv .f32 x n) * R1 (fdiv .f32 x n)) (R1 x / R1 n * (R1 x / R1 n)) (R1 x / R1 n * (R1 x / R1 n) * (1 / 5000000) + 9 * e32) := by
  obtain ⟨b, b1, b2, b3, b4⟩ := hM.abs
  obtain ⟨_, h⟩ := quot_R hx hn h0 b1 (by grind)
  generalize R1 x / R1 n = Q at *
  generalize R1 (fdiv .f32 x n) = r at *
  have d : In (r - Q) (8 / 5 * b * u32 + e32) := ⟨by have := h.1; grind, by have := h.2; grind⟩
  have s : In (r + Q) (2 * b + (8 / 5 * b * u32 + e32)) := ⟨by have := d.1; have := b1.1; grind, by have := d.2; have := b1.2; grind⟩
  have m := d.mul s
  have e1 : (r - Q) * (r + Q) = r * r - Q * Q := by grind
  rw [e1] at m
  have m1 := m.1
  have m2 := m.2
  have ex : (8 / 5 * b * u32 + e32) * (2 * b + (8 / 5 * b * u32 + e32)) ≤ b * b * (1 / 5000000) + 9 * e32 := by
    have hb2 : b ≤ 4 := by grind
    have hbb := sq_nn b
    clear m m1 m2 s d h e1
    unfold u32 e32; grind
  rw [b3] at ex
  exact ⟨by grind, by grind⟩

/-- A mended turn. -/
theorem mend_R {t : dTurn} {B : Rat} (hf : finT t) (h1 : In (R1 t.1) B) (h2 : In (R1 t.2.1) B) (h3 : In (R1 t.2.2.1) B) (h4 : In (R1 t.2.2.2.1) B) (hB : B ≤ 1024)
    {S : Rat} (hS : S = R1 t.1 * R1 t.1 + R1 t.2.1 * R1 t.2.1 + R1 t.2.2.1 * R1 t.2.2.1 + R1 t.2.2.2.1 * R1 t.2.2.2.1) (hS0 : 1 / 1099511627776 ≤ S) :
    ∃ n m, g_i_LengthOfTurn t = some n ∧ g_i_MendTurn t = some m ∧ okT m ∧ finT m ∧ 0 < R1 n ∧ Near (R1 n * R1 n) S (S * (1 / 2500000)) ∧
      Near (R1 m.1) (R1 t.1 / R1 n) (1 / 8000000) ∧ Near (R1 m.2.1) (R1 t.2.1 / R1 n) (1 / 8000000) ∧ Near (R1 m.2.2.1) (R1 t.2.2.1 / R1 n) (1 / 8000000) ∧ Near (R1 m.2.2.2.1) (R1 t.2.2.2.1 / R1 n) (1 / 8000000) ∧
      Near (R1 m.1 * R1 m.1 + R1 m.2.1 * R1 m.2.1 + R1 m.2.2.1 * R1 m.2.2.1 + R1 m.2.2.2.1 * R1 m.2.2.2.1) 1 (1 / 1600000) := by
  obtain ⟨n, l1, l2, l3, l4, l5⟩ := len_R hf h1 h2 h3 h4 hB hS hS0
  have hn0 : R1 n ≠ 0 := by
    intro h
    rw [h] at l5
    have := l5.1
    grind
  have hnp : 0 < R1 n := Rat.not_le.1 fun h => hn0 (by grind)
  obtain ⟨f1, f2, f3, f4⟩ := hf
  -- quotients
  have sumQ : Near (R1 t.1 / R1 n * (R1 t.1 / R1 n) + R1 t.2.1 / R1 n * (R1 t.2.1 / R1 n) + R1 t.2.2.1 / R1 n * (R1 t.2.2.1 / R1 n) + R1 t.2.2.2.1 / R1 n * (R1 t.2.2.2.1 / R1 n)) 1 (1 / 2499998) := by
    have q1 := div_mul (a := R1 t.1) hn0
    have q2 := div_mul (a := R1 t.2.1) hn0
    have q3 := div_mul (a := R1 t.2.2.1) hn0
    have q4 := div_mul (a := R1 t.2.2.2.1) hn0
    generalize R1 t.1 / R1 n = a1 at *
    generalize R1 t.2.1 / R1 n = a2 at *
    generalize R1 t.2.2.1 / R1 n = a3 at *
    generalize R1 t.2.2.2.1 / R1 n = a4 at *
    have hSn : (a1 * a1 + a2 * a2 + a3 * a3 + a4 * a4) * (R1 n * R1 n) = S := by rw [hS, ← q1, ← q2, ← q3, ← q4]; grind
    generalize a1 * a1 + a2 * a2 + a3 * a3 + a4 * a4 = T at *
    have hnn : 0 < R1 n * R1 n := Rat.mul_pos hnp hnp
    generalize R1 n * R1 n = N at *
    have o1 := l5.1
    have o2 := l5.2
    constructor
    · refine Rat.not_lt.1 fun hl => ?_
      have := Rat.mul_lt_mul_of_pos_right hl hnn
      grind
    · refine Rat.not_lt.1 fun hl => ?_
      have := Rat.mul_lt_mul_of_pos_right hl hnn
      grind
  have p1 := sq_nn (R1 t.1 / R1 n); have p2 := sq_nn (R1 t.2.1 / R1 n); have p3 := sq_nn (R1 t.2.2.1 / R1 n); have p4 := sq_nn (R1 t.2.2.2.1 / R1 n)
  have sQ2 := sumQ.2
  have in1 : In (R1 t.1 / R1 n) (1000001 / 1000000) := In.of_sq (by grind) (by decide +kernel)
  have in2 : In (R1 t.2.1 / R1 n) (1000001 / 1000000) := In.of_sq (by grind) (by decide +kernel)
  have in3 : In (R1 t.2.2.1 / R1 n) (1000001 / 1000000) := In.of_sq (by grind) (by decide +kernel)
  have in4 : In (R1 t.2.2.2.1 / R1 n) (1000001 / 1000000) := In.of_sq (by grind) (by decide +kernel)
  obtain ⟨g1, d1⟩ := quot_R f1 l2 hn0 in1 (by decide +kernel)
  obtain ⟨g2, d2⟩ := quot_R f2 l2 hn0 in2 (by decide +kernel)
  obtain ⟨g3, d3⟩ := quot_R f3 l2 hn0 in3 (by decide +kernel)
  obtain ⟨g4, d4⟩ := quot_R f4 l2 hn0 in4 (by decide +kernel)
  have s1 := quot_sq f1 l2 hn0 in1 (by decide +kernel)
  have s2 := quot_sq f2 l2 hn0 in2 (by decide +kernel)
  have s3 := quot_sq f3 l2 hn0 in3 (by decide +kernel)
  have s4 := quot_sq f4 l2 hn0 in4 (by decide +kernel)
  refine ⟨n, (fdiv .f32 t.1 n, (fdiv .f32 t.2.1 n, (fdiv .f32 t.2.2.1 n, (fdiv .f32 t.2.2.2.1 n, ())))), l1, ?_, ⟨fdiv_okF _ _ _, fdiv_okF _ _ _, fdiv_okF _ _ _, fdiv_okF _ _ _⟩, ⟨g1, g2, g3, g4⟩, hnp, l5, d1.mono (by decide +kernel), d2.mono (by decide +kernel), d3.mono (by decide +kernel), d4.mono (by decide +kernel), ?_⟩
  · unfold g_i_MendTurn
    rw [l1, opt_bind_some, isLength_R l2, decide_eq_true hn0]; rfl
  · dsimp only
    have := s1.1; have := s1.2; have := s2.1; have := s2.2; have := s3.1; have := s3.2; have := s4.1; have := s4.2; have := sumQ.1
    unfold e32 at *
    exact ⟨by grind, by grind⟩

end Go.Fw
