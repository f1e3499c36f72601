/- FnRotations: turned vectors. No condition. -/
import Derived.Test.YthmpjkfccbchfaaFEq6
set_option linter.unusedVariables false
set_option linter.unusedSimpArgs false
namespace Go.Fw

section
variable (w x y z a b c : Rat)
end

/-! ### lengths of vectors -/
theorem add_nn {x y : Nat} (hx : fin .f32 x) (hy : fin .f32 y) (h1 : 0 ≤ R1 x) (h2 : 0 ≤ R1 y) (hb : R1 x + R1 y ≤ big32) : 0 ≤ R1 (fadd .f32 x y) := by
  obtain ⟨m, c, e1, e2⟩ := fadd_fin hx hy
  have hz : R1 x + R1 y = ((Z .f32 x + Z .f32 y : Int) : Rat) * w2 FloatKind.f32.format.leastPlace := by
    unfold R1 R; rw [Rat.intCast_add]; grind
  have hz0 : 0 ≤ Z .f32 x + Z .f32 y := by
    have h3 : ((0 : Int) : Rat) * w2 FloatKind.f32.format.leastPlace ≤ ((Z .f32 x + Z .f32 y : Int) : Rat) * w2 FloatKind.f32.format.leastPlace := by
      rw [← hz]
      have e0 : ((0 : Int) : Rat) = 0 := rfl
      rw [e0, Rat.zero_mul]; grind
    exact (le_iff_Z (k := .f32)).1 h3
  have hs := sum_R (k := .f32) (t := sg .f32 x && sg .f32 y) e2
  unfold R1
  rw [e1]
  by_cases h0 : Z .f32 x + Z .f32 y = 0
  · have : m = 0 := by
      rw [h0] at e2
      have := Nat.two_pow_pos c
      rcases Nat.mul_eq_zero.1 e2 with h | h
      · exact h
      · omega
    subst this
    rw [round_zero]; decide
  · rw [if_neg h0, decide_eq_false (by omega)]
    rw [if_neg h0, decide_eq_false (by omega)] at hs
    have hm : (m : Rat) * w2 (FloatKind.f32.format.leastPlace + c) ≤ w2 (top .f32) := by
      have h4 : (m : Rat) * w2 (FloatKind.f32.format.leastPlace + c) = R1 x + R1 y := by rw [hz, ← hs]; rfl
      rw [h4]
      exact Rat.le_trans hb big_top
    obtain ⟨_, _, v, v1, v2, _⟩ := round_R .f32 false m (FloatKind.f32.format.leastPlace + c) hm
    rw [v2]
    simpa using v1

theorem mul_nn {x : Nat} (hx : fin .f32 x) (hb : R1 x * R1 x ≤ big32) : 0 ≤ R1 (fmul .f32 x x) := by
  obtain ⟨m, e, e1, e2⟩ := fmul_fin hx hx
  have hxx : (sg .f32 x ^^ sg .f32 x) = false := by cases sg .f32 x <;> rfl
  rw [hxx] at e1 e2
  unfold R1
  rw [e1]
  have hm : (m : Rat) * w2 e ≤ w2 (top .f32) := by
    have h4 : (m : Rat) * w2 e = R1 x * R1 x := e2
    rw [h4]
    exact Rat.le_trans hb big_top
  obtain ⟨_, _, v, v1, v2, _⟩ := round_R .f32 false m e hm
  rw [v2]
  simpa using v1

theorem inner3_R {t : dVec} {B : Rat} (hf : finV t) (h1 : In (R1 t.1) B) (h2 : In (R1 t.2.1) B) (h3 : In (R1 t.2.2.1) B) (hB : B ≤ 1024) :
    fin .f32 (t_i_InnerOf t t) ∧ 0 ≤ R1 (t_i_InnerOf t t) ∧ Near (R1 (t_i_InnerOf t t)) (R1 t.1 * R1 t.1 + R1 t.2.1 * R1 t.2.1 + R1 t.2.2.1 * R1 t.2.2.1)
      ((R1 t.1 * R1 t.1 + R1 t.2.1 * R1 t.2.1 + R1 t.2.2.1 * R1 t.2.2.1) * (1 / 4000000) + 10 * e32) := by
  obtain ⟨f1, f2, f3⟩ := hf
  have hB0 : 0 ≤ B := by have := h1.1; have := h1.2; grind
  have hBB : B * B ≤ 1048576 := by have := sq_le hB0 hB; grind
  have sq : ∀ x : Nat, fin .f32 x → In (R1 x) B → Ap (fmul .f32 x x) (R1 x * R1 x) (R1 x * R1 x * u32 + e32) ∧ 0 ≤ R1 x * R1 x ∧ R1 x * R1 x ≤ 1048576 := fun x hx hin => by
    have h := (hin.mul hin)
    have hp := sq_nn (R1 x)
    have a := (Ap.self hx).mul (Ap.self hx) hin hin (M := R1 x * R1 x) ⟨by grind, by grind⟩ (by have := h.2; unfold big32; grind)
    exact ⟨a.mono (by grind), hp, by have := h.2; grind⟩
  obtain ⟨a1, p1, q1⟩ := sq _ f1 h1
  obtain ⟨a2, p2, q2⟩ := sq _ f2 h2
  obtain ⟨a3, p3, q3⟩ := sq _ f3 h3
  have k1 := mul_nn f1 (by unfold big32; grind)
  have k2 := mul_nn f2 (by unfold big32; grind)
  have k3 := mul_nn f3 (by unfold big32; grind)
  unfold t_i_InnerOf
  generalize fmul .f32 t.1 t.1 = m1 at *
  generalize fmul .f32 t.2.1 t.2.1 = m2 at *
  generalize fmul .f32 t.2.2.1 t.2.2.1 = m3 at *
  generalize R1 t.1 * R1 t.1 = s1 at *
  generalize R1 t.2.1 * R1 t.2.1 = s2 at *
  generalize R1 t.2.2.1 * R1 t.2.2.1 = s3 at *
  have b1 := (a1.add a2 (M := s1 + s2) ⟨by grind, by grind⟩ (by unfold big32 u32 e32; grind)).mono (f := (s1 + s2) * (2001 / 1000 * u32) + 3 * e32) (by unfold u32 e32; grind)
  have b2 := (b1.add a3 (M := s1 + s2 + s3) ⟨by grind, by grind⟩ (by unfold big32 u32 e32; grind)).mono (f := (s1 + s2 + s3) * (1 / 4000000) + 10 * e32) (by unfold u32 e32; grind)
  have o1 := add_nn a1.1 a2.1 k1 k2 (by have := a1.2.2; have := a2.2.2; unfold R1 big32 u32 e32 at *; grind)
  have o2 := add_nn b1.1 a3.1 o1 k3 (by have := b1.2.2; have := a3.2.2; unfold R1 big32 u32 e32 at *; grind)
  exact ⟨b2.1, o2, b2.2⟩

def tin : Rat := 1 / 35184372088832

/-- The length of a vector. -/
theorem long_R {t : dVec} {B : Rat} (hf : finV t) (h1 : In (R1 t.1) B) (h2 : In (R1 t.2.1) B) (h3 : In (R1 t.2.2.1) B) (hB : B ≤ 1024) :
    ∃ n, g_i_LongOf t = some n ∧ fin .f32 n ∧ n < 2 ^ 32 ∧ 0 ≤ R1 n ∧ NB (R1 t.1) (R1 t.2.1) (R1 t.2.2.1) (R1 n * (1000001 / 1000000) + tin) ∧ (∀ A, NB (R1 t.1) (R1 t.2.1) (R1 t.2.2.1) A → R1 n ≤ A * (1000001 / 1000000) + tin) ∧
      Near (R1 n * R1 n) (R1 t.1 * R1 t.1 + R1 t.2.1 * R1 t.2.1 + R1 t.2.2.1 * R1 t.2.2.1) ((R1 t.1 * R1 t.1 + R1 t.2.1 * R1 t.2.1 + R1 t.2.2.1 * R1 t.2.2.1) * (1 / 2500000) + tin * tin / 100) := by
  obtain ⟨g1, hI0, g2⟩ := inner3_R hf h1 h2 h3 hB
  have hB0 : 0 ≤ B := by have := h1.1; have := h1.2; grind
  have s1 := sq_nn (R1 t.1); have s2 := sq_nn (R1 t.2.1); have s3 := sq_nn (R1 t.2.2.1)
  have hSB : R1 t.1 * R1 t.1 + R1 t.2.1 * R1 t.2.1 + R1 t.2.2.1 * R1 t.2.2.1 ≤ 4194304 := by
    have := h1.sq; have := h2.sq; have := h3.sq
    have hBB := sq_le hB0 hB
    grind
  have hS0 : 0 ≤ R1 t.1 * R1 t.1 + R1 t.2.1 * R1 t.2.1 + R1 t.2.2.1 * R1 t.2.2.1 := by grind
  have lo := g2.1
  have hi := g2.2
  have hlt : t_i_InnerOf t t < 2 ^ 32 := (fadd_okF _ _ _).lt32
  have hI1 : R .f32 (t_i_InnerOf t t) ≤ 1152921504606846976 := by unfold e32 at *; grind
  obtain ⟨r, r1, r2, r3, r4⟩ := root_R hlt g1 hI0 hI1
  have hnear : Near (R1 r * R1 r) (R1 t.1 * R1 t.1 + R1 t.2.1 * R1 t.2.1 + R1 t.2.2.1 * R1 t.2.2.1) ((R1 t.1 * R1 t.1 + R1 t.2.1 * R1 t.2.1 + R1 t.2.2.1 * R1 t.2.2.1) * (1 / 2500000) + tin * tin / 100) := by
    have := r4.1
    have := r4.2
    unfold e32 at *
    unfold tin
    exact ⟨by grind, by grind⟩
  refine ⟨r, ?_, r2, (fconv_okF (mathsqrt_okF _).1 r1).lt32, r3, ?_, ?_, hnear⟩
  · unfold g_i_LongOf g_i_RootNumber
    show Option.bind (Option.bind (fconv .f64 .f32 (t_mathsqrt (fwide _))) _) _ = _
    rw [r1]; rfl
  · have h := hnear.1
    have hnn := sq_nn (R1 r)
    refine ⟨?_, by unfold tin; grind⟩
    generalize R1 t.1 * R1 t.1 + R1 t.2.1 * R1 t.2.1 + R1 t.2.2.1 * R1 t.2.2.1 = S at *
    have : (R1 r * (1000001 / 1000000) + tin) * (R1 r * (1000001 / 1000000) + tin) = R1 r * R1 r * (1000001 / 1000000 * (1000001 / 1000000)) + R1 r * (2 * tin * (1000001 / 1000000)) + tin * tin := by grind
    rw [this]
    unfold tin at *
    grind
  · intro A hA
    have h := hnear.2
    have hA0 := hA.2
    refine le_of_sq (by unfold tin; grind) ?_
    have hA1 := hA.1
    generalize R1 t.1 * R1 t.1 + R1 t.2.1 * R1 t.2.1 + R1 t.2.2.1 * R1 t.2.2.1 = S at *
    have : (A * (1000001 / 1000000) + tin) * (A * (1000001 / 1000000) + tin) = A * A * (1000001 / 1000000 * (1000001 / 1000000)) + A * (2 * tin * (1000001 / 1000000)) + tin * tin := by grind
    rw [this]
    unfold tin at *
    grind

theorem NT.comp {t : dTurn} (h : NT t) : In (R1 t.1) (1000001 / 1000000) ∧ In (R1 t.2.1) (1000001 / 1000000) ∧ In (R1 t.2.2.1) (1000001 / 1000000) ∧ In (R1 t.2.2.2.1) (1000001 / 1000000) := by
  have p1 := sq_nn (R1 t.1); have p2 := sq_nn (R1 t.2.1); have p3 := sq_nn (R1 t.2.2.1); have p4 := sq_nn (R1 t.2.2.2.1)
  have q2 := h.2.2.2
  exact ⟨In.of_sq (by grind) (by decide +kernel), In.of_sq (by grind) (by decide +kernel), In.of_sq (by grind) (by decide +kernel), In.of_sq (by grind) (by decide +kernel)⟩

end Go.Fw
