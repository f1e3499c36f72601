/- FnMended: a mended turn has nearly the length 1. No condition. -/
import Derived.Test.YthmpjkfccbchfaaFEq5
set_option linter.unusedVariables false
set_option linter.unusedSimpArgs false
namespace Go.Fw

theorem fmax_le {a b : Nat} (fa : fin .f64 a) (fb : fin .f64 b) {M : Rat} (ha : R .f64 a ≤ M) (hb : R .f64 b ≤ M) : fin .f64 (fmax .f64 a b) ∧ R .f64 (fmax .f64 a b) ≤ M := by
  unfold fmax
  rw [order_fin fa fb]
  cases compare (Z .f64 a) (Z .f64 b)
  · exact ⟨fb, hb⟩
  · dsimp only
    cases (FloatKind.f64.decode a).neg
    · exact ⟨fa, ha⟩
    · exact ⟨fb, hb⟩
  · exact ⟨fa, ha⟩

theorem gap_R {a b : Nat} (fa : fin .f64 a) (fb : fin .f64 b) {M : Rat} (h : In (R .f64 a - R .f64 b) M) (hM : M ≤ 1000000000000) : fin .f64 (t_w_r8Gap a b) ∧ R .f64 (t_w_r8Gap a b) ≤ M * (1000001 / 1000000) := by
  have hT : M ≤ w2 (top .f64) := Rat.le_trans hM (by decide +kernel)
  have hM0 : 0 ≤ M := by have := h.1; have := h.2; grind
  have h' : In (R .f64 b - R .f64 a) M := ⟨by have := h.2; grind, by have := h.1; grind⟩
  obtain ⟨s1, s2⟩ := sub_R fa fb h hT
  obtain ⟨s3, s4⟩ := sub_R fb fa h' hT
  rw [un64] at s2 s4
  exact fmax_le s1 s3 (by have := s2.2; have := h.2; grind) (by have := s4.2; have := h'.2; grind)

theorem tol4 : (99999 / 1000000000 : Rat) ≤ R .f64 4547007122018943789 := by decide +kernel
theorem fin64_dec {x : Nat} (h : Nat.blt (x % FloatKind.f64.format.signWeight) FloatKind.f64.format.infRung = true) : fin .f64 x := (fin_dec _ _).2 h

theorem gap_small {a b : Nat} (fa : fin .f64 a) (fb : fin .f64 b) (h : In (R .f64 a - R .f64 b) (9999 / 100000000)) : fgt .f64 (t_w_r8Gap a b) 4547007122018943789 = false := by
  obtain ⟨h1, h2⟩ := gap_R fa fb h (by decide +kernel)
  rw [fgt_R h1 (fin64_dec (by decide +kernel))]
  have := tol4
  exact decide_eq_false (by grind)

/-- A number of quarters. -/
theorem Quart.R {x : Nat} (h : Quart x) : okF .f32 x ∧ fin .f32 x ∧ In (R1 x) 4 ∧ (x = 0 ∨ 1 / 16 ≤ R1 x * R1 x) ∧ ∃ n : Int, R1 x = (n : Rat) / 4 := by
  obtain ⟨h0, n, ⟨h1, h2, h3⟩, h4⟩ := h
  have hw : w2 (-(2 : Nat) : Int) = 1 / 4 := by decide +kernel
  rw [hw] at h2
  have e : R1 x = (n : Rat) * (1 / 4) := h2
  have n1 : (n : Rat) ≤ ((16 : Int) : Rat) := Rat.intCast_le_intCast.2 (by omega)
  have n2 : ((-16 : Int) : Rat) ≤ (n : Rat) := Rat.intCast_le_intCast.2 (by omega)
  have e16 : ((16 : Int) : Rat) = 16 := rfl
  have em16 : ((-16 : Int) : Rat) = -16 := rfl
  rw [e16] at n1
  rw [em16] at n2
  refine ⟨h0, h1, by rw [e]; exact ⟨by grind, by grind⟩, ?_, n, by rw [e]; grind⟩
  by_cases hn : n = 0
  · exact .inl (h4 hn)
  · right
    have h5 : (1 : Int) ≤ n * n := by
      rcases Int.lt_or_gt_of_ne hn with h | h
      · exact Int.mul_pos_of_neg_of_neg h h
      · exact Int.mul_pos h h
    have h6 := Rat.intCast_le_intCast.2 h5
    rw [Rat.intCast_mul] at h6
    have e1 : ((1 : Int) : Rat) = 1 := rfl
    rw [e1] at h6
    rw [e]; grind

/-- A turn of nearly the length 1. -/
def NT (t : dTurn) : Prop := okT t ∧ finT t ∧ Near (R1 t.1 * R1 t.1 + R1 t.2.1 * R1 t.2.1 + R1 t.2.2.1 * R1 t.2.2.1 + R1 t.2.2.2.1 * R1 t.2.2.2.1) 1 (1 / 1600000)

theorem exB_NT {t : dTurn} (h : exB t = true) : NT t := by
  obtain ⟨o, ⟨w, x, y, z, ⟨e1, e2, e3, e4⟩, hs⟩, _⟩ := exB_spec h
  refine ⟨o, ⟨e1.1, e2.1, e3.1, e4.1⟩, ?_⟩
  have hw : w2 (-(1 : Nat) : Int) = 1 / 2 := by decide +kernel
  have h1 := e1.2.1; have h2 := e2.2.1; have h3 := e3.2.1; have h4 := e4.2.1
  rw [hw] at h1 h2 h3 h4
  have hs' : (w : Rat) * w + (x : Rat) * x + (y : Rat) * y + (z : Rat) * z = 4 := by
    have := congrArg (fun i : Int => (i : Rat)) hs
    simp only [Rat.intCast_add, Rat.intCast_mul] at this
    exact this
  have e : R1 t.1 * R1 t.1 + R1 t.2.1 * R1 t.2.1 + R1 t.2.2.1 * R1 t.2.2.1 + R1 t.2.2.2.1 * R1 t.2.2.2.1 = 1 := by
    unfold R1
    rw [h1, h2, h3, h4]; grind
  rw [e]
  exact Near.refl (by decide +kernel)

theorem no_NT : NT t_i_NoTurn := exB_NT (by decide +kernel)
theorem mend_zero : g_i_MendTurn (0, (0, (0, (0, ())))) = some t_i_NoTurn := by decide +kernel

theorem mend_quart {a b c d : Nat} (ha : Quart a) (hb : Quart b) (hc : Quart c) (hd : Quart d) : ∃ m, g_i_MendTurn (a, (b, (c, (d, ())))) = some m ∧ NT m := by
  obtain ⟨a1, a2, a3, a4, _⟩ := ha.R
  obtain ⟨b1, b2, b3, b4, _⟩ := hb.R
  obtain ⟨c1, c2, c3, c4, _⟩ := hc.R
  obtain ⟨d1, d2, d3, d4, _⟩ := hd.R
  by_cases h0 : a = 0 ∧ b = 0 ∧ c = 0 ∧ d = 0
  · obtain ⟨rfl, rfl, rfl, rfl⟩ := h0
    exact ⟨_, mend_zero, no_NT⟩
  · have p1 := sq_nn (R1 a); have p2 := sq_nn (R1 b); have p3 := sq_nn (R1 c); have p4 := sq_nn (R1 d)
    have hS : 1 / 16 ≤ R1 a * R1 a + R1 b * R1 b + R1 c * R1 c + R1 d * R1 d := by
      rcases a4 with e | e
      · rcases b4 with e2 | e2
        · rcases c4 with e3 | e3
          · rcases d4 with e4 | e4
            · exact absurd ⟨e, e2, e3, e4⟩ h0
            · grind
          · grind
        · grind
      · grind
    obtain ⟨n, m, _, m2, m3, m4, _, _, _, _, _, _, m5⟩ := mend_R (t := (a, (b, (c, (d, ()))))) ⟨a2, b2, c2, d2⟩ a3 b3 c3 d3 (by decide) rfl (by dsimp only; grind)
    exact ⟨m, m2, m3, m4, m5⟩

theorem sm_Mend (t : dTurn) : g_s_l02Mend t = g_i_MendTurn t := by
  unfold g_i_MendTurn g_s_l02Mend
  have e : g_i_LengthOfTurn t = g_s_l01Sqrt (t_s_l02Inner t t) := by
    unfold g_i_LengthOfTurn
    rw [se_RootNumber, opt_bind_pure]; rfl
  rw [e]
  congr 1
  funext y
  unfold t_i_isLength
  rw [se_IsFinite]
  cases t_s_l01Finite y <;> cases feq .f32 y 0 <;> rfl

theorem rq_DrawTurn {n : Nat} {s : dSrc} (h : okS n s) (hn : n ≤ 4611686018427370000) : Ret (g_s_l02DrawTurn s) fun y => NT y.1 := by
  unfold g_s_l02DrawTurn
  refine Ret.bind ((rt_one 2 h (by omega) (by omega)).mono fun y hy => Ret.cond (fun _ => ?_) fun _ => ?_)
  · exact Ret.bind ((rx_DrawExact hy (by omega)).mono fun z hz => Ret.pure (exB_NT hz.1))
  · refine Ret.bind ((rq_DrawSmall hy (by omega)).mono fun a ha => Ret.bind ((rq_DrawSmall ha.2 (by omega)).mono fun b hb => Ret.bind ((rq_DrawSmall hb.2 (by omega)).mono fun c hc => Ret.bind ((rq_DrawSmall hc.2 (by omega)).mono fun d hd => ?_))))
    obtain ⟨m, m1, m2⟩ := mend_quart ha.1 hb.1 hc.1 hd.1
    rw [sm_Mend, m1]
    exact Ret.bind (Ret.pure (Ret.pure m2))

theorem rq_R8Turn {code : List Int} (h : ∀ x ∈ code, 0 ≤ x ∧ x ≤ 255) (hl : code.length ≤ 4294967296) : Ret (g_s_R8Turn code) NT := by
  unfold g_s_R8Turn
  exact Ret.bind ((rq_DrawTurn (okS_from h hl) (by omega)).mono fun y hy => Ret.pure hy)

theorem same_refl1 (x : Nat) : same x x = true := by
  unfold same; simp

end Go.Fw
