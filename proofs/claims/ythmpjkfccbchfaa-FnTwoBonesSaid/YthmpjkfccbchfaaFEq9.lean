/- FnTurnsBetween: the turn between two vectors. No condition. -/
import Derived.Test.YthmpjkfccbchfaaFEq8
set_option linter.unusedVariables false
set_option linter.unusedSimpArgs false
namespace Go.Fw

/-! ### the law in rational numbers -/
section
variable (w a1 a2 a3 b1 b2 b3 : Rat)
end

section
variable (k w x y z a b c : Rat)
end

theorem cancel_r {a b c : Rat} (hc : 0 < c) (h : a * c ≤ b * c) : a ≤ b := by
  refine Rat.not_lt.1 fun hl => ?_
  have := Rat.mul_lt_mul_of_pos_right hl hc
  grind
theorem In.cancel {a M c : Rat} (hc : 0 < c) (h : In (a * c) (M * c)) : In a M := ⟨cancel_r hc (by have := h.1; grind), cancel_r hc h.2⟩

theorem eq_of_mul {a b c : Rat} (hc : 0 < c) (h : a * c = b * c) : a = b := by
  have h1 : (a - b) * c = 0 := by grind
  rcases Rat.mul_eq_zero.1 h1 with h2 | h2
  · grind
  · rw [h2] at hc; exact absurd hc (by decide)

/-! ### words -/
theorem Ev.R2 {x : Nat} {n : Int} {N : Nat} (h : Ev x n 2 N) : R1 x = (n : Rat) * (1 / 4) := by
  have hw : w2 (-(2 : Nat) : Int) = 1 / 4 := by decide +kernel
  have h1 := h.2.1
  rw [hw] at h1
  exact h1
theorem Ev.R4 {x : Nat} {n : Int} {N : Nat} (h : Ev x n (2 + 2) N) : R1 x = (n : Rat) * (1 / 16) := by
  have hw : w2 (-((2 + 2 : Nat) : Int)) = 1 / 16 := by decide +kernel
  have h1 := h.2.1
  rw [hw] at h1
  exact h1

theorem QV.VE {v : dVec} (h : QV v) : ∃ x y z, Fw.VE v x y z 2 16 := by
  obtain ⟨⟨_, x, hx, _⟩, ⟨_, y, hy, _⟩, _, z, hz, _⟩ := h
  exact ⟨x, y, z, hx, hy, hz⟩

theorem cross_E {a b : dVec} (ha : QV a) (hb : QV b) : finV (t_i_CrossOf a b) ∧ R1 (t_i_CrossOf a b).1 = R1 a.2.1 * R1 b.2.2.1 - R1 a.2.2.1 * R1 b.2.1 ∧ R1 (t_i_CrossOf a b).2.1 = R1 a.2.2.1 * R1 b.1 - R1 a.1 * R1 b.2.2.1 ∧ R1 (t_i_CrossOf a b).2.2.1 = R1 a.1 * R1 b.2.1 - R1 a.2.1 * R1 b.1 := by
  obtain ⟨x, y, z, v⟩ := ha.VE
  obtain ⟨x', y', z', v'⟩ := hb.VE
  obtain ⟨c1, c2, c3⟩ := v.cross v' (by decide) (by decide)
  refine ⟨⟨c1.1, c2.1, c3.1⟩, ?_, ?_, ?_⟩
  · rw [c1.R4, v.2.1.R2, v.2.2.R2, v'.2.1.R2, v'.2.2.R2, Rat.intCast_sub, Rat.intCast_mul, Rat.intCast_mul]; grind
  · rw [c2.R4, v.1.R2, v.2.2.R2, v'.1.R2, v'.2.2.R2, Rat.intCast_sub, Rat.intCast_mul, Rat.intCast_mul]; grind
  · rw [c3.R4, v.1.R2, v.2.1.R2, v'.1.R2, v'.2.1.R2, Rat.intCast_sub, Rat.intCast_mul, Rat.intCast_mul]; grind

theorem inner_E {a b : dVec} (ha : QV a) (hb : QV b) : fin .f32 (t_i_InnerOf a b) ∧ R1 (t_i_InnerOf a b) = R1 a.1 * R1 b.1 + R1 a.2.1 * R1 b.2.1 + R1 a.2.2.1 * R1 b.2.2.1 := by
  obtain ⟨x, y, z, v⟩ := ha.VE
  obtain ⟨x', y', z', v'⟩ := hb.VE
  have c := ((v.1.mul v'.1 (by decide) (by decide)).add (v.2.1.mul v'.2.1 (by decide) (by decide)) (by decide) (by decide)).add (v.2.2.mul v'.2.2 (by decide) (by decide)) (by decide) (by decide)
  refine ⟨c.1, ?_⟩
  have e : R1 (t_i_InnerOf a b) = _ := c.R4
  rw [e, v.1.R2, v.2.1.R2, v.2.2.R2, v'.1.R2, v'.2.1.R2, v'.2.2.R2, Rat.intCast_add, Rat.intCast_add, Rat.intCast_mul, Rat.intCast_mul, Rat.intCast_mul]; grind

theorem quart_lit0 : Quart 0 := by
  have h := quart_of (n := 16) (by decide)
  rw [(quart_tab 16 (by decide)).2.2 rfl] at h
  exact h
theorem quart_lit1 : Quart 1065353216 := by
  have h := quart_of (n := 20) (by decide)
  have e : fdiv .f32 (fofInt .f32 (((20 : Nat) : Int) - 16)) 1082130432 = 1065353216 := by decide +kernel
  rw [e] at h
  exact h
theorem R1_one : R1 1065353216 = 1 := by decide +kernel
theorem R1_zero : R1 0 = 0 := R_zero _

/-- A vector of quarters is zero, or not small. -/
theorem QV.zero_or {v : dVec} (h : QV v) : v = (0, (0, (0, ()))) ∨ 1 / 16 ≤ R1 v.1 * R1 v.1 + R1 v.2.1 * R1 v.2.1 + R1 v.2.2.1 * R1 v.2.2.1 := by
  have p1 := sq_nn (R1 v.1); have p2 := sq_nn (R1 v.2.1); have p3 := sq_nn (R1 v.2.2.1)
  rcases h.1.R.2.2.2.1 with e1 | e1
  · rcases h.2.1.R.2.2.2.1 with e2 | e2
    · rcases h.2.2.R.2.2.2.1 with e3 | e3
      · left
        obtain ⟨v1, v2, v3, ⟨⟩⟩ := v
        simp only at e1 e2 e3
        rw [e1, e2, e3]
      · right; grind
    · right; grind
  · right; grind

/-- The length of a vector of quarters that is not zero. -/
theorem long_Q {v : dVec} (h : QV v) (h0 : 1 / 16 ≤ R1 v.1 * R1 v.1 + R1 v.2.1 * R1 v.2.1 + R1 v.2.2.1 * R1 v.2.2.1) : ∃ n, g_i_LongOf v = some n ∧ fin .f32 n ∧ n < 2 ^ 32 ∧ 1 / 5 ≤ R1 n ∧ R1 n ≤ 7 ∧
    Near (R1 n * R1 n) (R1 v.1 * R1 v.1 + R1 v.2.1 * R1 v.2.1 + R1 v.2.2.1 * R1 v.2.2.1) ((R1 v.1 * R1 v.1 + R1 v.2.1 * R1 v.2.1 + R1 v.2.2.1 * R1 v.2.2.1) * (41 / 100000000)) ∧ NB (R1 v.1) (R1 v.2.1) (R1 v.2.2.1) (R1 n * (101 / 100)) := by
  obtain ⟨vf, v1, v2, v3⟩ := h.R
  obtain ⟨n, a1, a2, a3, a4, a5, a6, a7⟩ := long_R vf v1 v2 v3 (by decide)
  have hN := a6 _ (NB.of v1 v2 v3)
  have h7 := a7.1
  have hlo : 1 / 5 ≤ R1 n := le_of_sq a4 (by unfold tin at h7; grind)
  refine ⟨n, a1, a2, a3, hlo, by unfold tin at hN; grind, a7.mono (by unfold tin; grind), a5.mono (by unfold tin; grind)⟩

/-- A vector across a. -/
theorem across {a : dVec} (ha : QV a) (h0 : 1 / 16 ≤ R1 a.1 * R1 a.1 + R1 a.2.1 * R1 a.2.1 + R1 a.2.2.1 * R1 a.2.2.1) {m : Nat} (hm : fin .f32 m) (hm1 : 1 / 5 ≤ R1 m) (hm2 : R1 m ≤ 7) :
    ∃ r c, g_i_LongOf (t_i_CrossOf a (1065353216, (0, (0, ())))) = some r ∧
      (bif (fle .f32 r (fdiv .f32 m 1149239296)) then g_i_MendTurn (t_i_turnOf 0 (t_i_CrossOf a (0, (1065353216, (0, ()))))) else g_i_MendTurn (t_i_turnOf 0 (t_i_CrossOf a (1065353216, (0, (0, ())))))) = g_i_MendTurn (t_i_turnOf 0 c) ∧
      finV c ∧ (In (R1 c.1) 4 ∧ In (R1 c.2.1) 4 ∧ In (R1 c.2.2.1) 4) ∧ R1 c.1 * R1 a.1 + R1 c.2.1 * R1 a.2.1 + R1 c.2.2.1 * R1 a.2.2.1 = 0 ∧ 1 / 16 ≤ 0 * 0 + R1 c.1 * R1 c.1 + R1 c.2.1 * R1 c.2.1 + R1 c.2.2.1 * R1 c.2.2.1 := by
  have q0 := quart_lit0
  have q1 := quart_lit1
  obtain ⟨f1, x1, x2, x3⟩ := cross_E ha (b := (1065353216, (0, (0, ())))) ⟨q1, q0, q0⟩
  obtain ⟨f2, y1, y2, y3⟩ := cross_E ha (b := (0, (1065353216, (0, ())))) ⟨q0, q1, q0⟩
  dsimp only at x1 x2 x3 y1 y2 y3
  simp only [R1_one, R1_zero] at x1 x2 x3 y1 y2 y3
  obtain ⟨_, v1, v2, v3⟩ := ha.R
  have k0 : fin .f32 1149239296 ∧ R1 1149239296 = 1024 := ⟨(fin_dec _ _).2 (by decide +kernel), by decide +kernel⟩
  obtain ⟨w1, w2⟩ := quot_R hm k0.1 (by rw [k0.2]; decide +kernel) (M := 1) (by
    have e := div_mul (a := R1 m) (b := R1 1149239296) (by rw [k0.2]; decide +kernel)
    rw [k0.2] at e ⊢
    exact ⟨by grind, by grind⟩) (by decide +kernel)
  have hq : Near (R1 (fdiv .f32 m 1149239296)) (R1 m / 1024) (1 / 1000000) := by
    rw [k0.2] at w2
    exact w2.mono (by unfold u32 e32; decide +kernel)
  have em := div_mul (a := R1 m) (b := 1024) (by decide)
  have p1 := sq_nn (R1 a.1); have p2 := sq_nn (R1 a.2.1); have p3 := sq_nn (R1 a.2.2.1)
  have b1 : In (R1 (t_i_CrossOf a (1065353216, (0, (0, ())))).1) 4 := by rw [x1]; exact ⟨by grind, by grind⟩
  have b2 : In (R1 (t_i_CrossOf a (1065353216, (0, (0, ())))).2.1) 4 := by rw [x2]; have := v3.1; have := v3.2; exact ⟨by grind, by grind⟩
  have b3 : In (R1 (t_i_CrossOf a (1065353216, (0, (0, ())))).2.2.1) 4 := by rw [x3]; have := v2.1; have := v2.2; exact ⟨by grind, by grind⟩
  obtain ⟨r, r1, r2, r3, r4, r5, r6, r7⟩ := long_R f1 b1 b2 b3 (by decide)
  have hqq := hq.1
  have hqq2 := hq.2
  refine ⟨r, ?_⟩
  by_cases hz : a.2.1 = 0 ∧ a.2.2.1 = 0
  · -- along X
    obtain ⟨z2, z3⟩ := hz
    simp only [z2, z3, R1_zero] at x1 x2 x3 y1 y2 y3 h0
    have hr := r6 0 ⟨by rw [x1, x2, x3]; grind, by decide⟩
    have hle : fle .f32 r (fdiv .f32 m 1149239296) = true := by
      rw [fle_R r2 w1]
      unfold R1 tin at *
      exact decide_eq_true (by grind)
    refine ⟨t_i_CrossOf a (0, (1065353216, (0, ()))), r1, by rw [hle]; rfl, f2, ⟨by rw [y1]; exact ⟨by grind, by grind⟩, by rw [y2]; exact ⟨by grind, by grind⟩, by rw [y3]; have := v1.1; have := v1.2; exact ⟨by grind, by grind⟩⟩, ?_, ?_⟩
    · simp only [y1, y2, y3, z2, z3, R1_zero]; grind
    · rw [y1, y2, y3]; grind
  · have h16 : 1 / 16 ≤ R1 a.2.1 * R1 a.2.1 + R1 a.2.2.1 * R1 a.2.2.1 := by
      rcases ha.2.1.R.2.2.2.1 with e2 | e2
      · rcases ha.2.2.R.2.2.2.1 with e3 | e3
        · exact absurd ⟨e2, e3⟩ hz
        · grind
      · grind
    have h7 := r7.1
    rw [x1, x2, x3] at h7
    have hlo : 1 / 5 ≤ R1 r := le_of_sq r4 (by unfold tin at h7; grind)
    have hle : fle .f32 r (fdiv .f32 m 1149239296) = false := by
      rw [fle_R r2 w1]
      unfold R1 at *
      exact decide_eq_false (by grind)
    refine ⟨t_i_CrossOf a (1065353216, (0, (0, ()))), r1, by rw [hle]; rfl, f1, ⟨b1, b2, b3⟩, ?_, ?_⟩
    · rw [x1, x2, x3]; grind
    · rw [x1, x2, x3]; grind

theorem big64 : (1000 : Rat) ≤ w2 (top .f64) := by
  have h : w2 10 ≤ w2 (top .f64) := w2_le (by decide)
  have e : w2 10 = 1024 := by decide +kernel
  grind

theorem tenth : fin .f64 4591870180066957722 ∧ Near (R .f64 4591870180066957722) (1 / 10) (1 / 1000000000) := ⟨fin64_dec (by decide +kernel), by constructor <;> decide +kernel⟩

theorem feq0 {n : Nat} (h : fin .f32 n) (h1 : 1 / 5 ≤ R1 n) : feq .f32 n 0 = false := by
  rw [feq_R h (zero_fin .f32), R_zero]
  unfold R1 at h1
  exact decide_eq_false (by grind)

end Go.Fw
