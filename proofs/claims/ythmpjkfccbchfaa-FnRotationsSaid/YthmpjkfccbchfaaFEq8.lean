/- FnRotations: a turn of nearly the length 1 keeps lengths. No condition. -/
import Derived.Test.YthmpjkfccbchfaaFEq7
set_option linter.unusedVariables false
set_option linter.unusedSimpArgs false
namespace Go.Fw

section
variable (w x y z a b c d e f : Rat)
theorem px_add : px w x y z (a + d) (b + e) (c + f) = px w x y z a b c + px w x y z d e f := by unfold px; grind
theorem py_add : py w x y z (a + d) (b + e) (c + f) = py w x y z a b c + py w x y z d e f := by unfold py; grind
theorem pz_add : pz w x y z (a + d) (b + e) (c + f) = pz w x y z a b c + pz w x y z d e f := by unfold pz; grind
end

theorem near_err' {x a e : Rat} (h : Near x a e) : ∃ g, x = a + g ∧ In g e := ⟨x - a, by grind, by have := h.1; grind, by have := h.2; grind⟩

/-- A turned vector: the turned one, and a rest. -/
theorem rot_parts {t : dTurn} {v : dVec} {V A : Rat} (ht : finT t) (hv : finV v) (i1 : In (R1 t.1) (1000001 / 1000000)) (i2 : In (R1 t.2.1) (1000001 / 1000000)) (i3 : In (R1 t.2.2.1) (1000001 / 1000000)) (i4 : In (R1 t.2.2.2.1) (1000001 / 1000000))
    {S : Rat} (hS : R1 t.1 * R1 t.1 + R1 t.2.1 * R1 t.2.1 + R1 t.2.2.1 * R1 t.2.2.1 + R1 t.2.2.2.1 * R1 t.2.2.2.1 = S) (hS1 : Near S 1 (1 / 1600000))
    (v1 : In (R1 v.1) V) (v2 : In (R1 v.2.1) V) (v3 : In (R1 v.2.2.1) V) (hV1 : 1 / 1000000000 ≤ V) (hV2 : V ≤ 100000) (hA : NB (R1 v.1) (R1 v.2.1) (R1 v.2.2.1) A) :
    finV (t_i_RotateBy t v) ∧ ∃ g1 g2 g3, R1 (t_i_RotateBy t v).1 = px (R1 t.1) (R1 t.2.1) (R1 t.2.2.1) (R1 t.2.2.2.1) (R1 v.1) (R1 v.2.1) (R1 v.2.2.1) + g1 ∧
      R1 (t_i_RotateBy t v).2.1 = py (R1 t.1) (R1 t.2.1) (R1 t.2.2.1) (R1 t.2.2.2.1) (R1 v.1) (R1 v.2.1) (R1 v.2.2.1) + g2 ∧
      R1 (t_i_RotateBy t v).2.2.1 = pz (R1 t.1) (R1 t.2.1) (R1 t.2.2.1) (R1 t.2.2.2.1) (R1 v.1) (R1 v.2.1) (R1 v.2.2.1) + g3 ∧
      NB g1 g2 g3 (1 / 1600000 * A + 17321 / 10000 * (V * (63 * u32))) ∧ (In g1 (1 / 1600000 * V + V * (63 * u32)) ∧ In g2 (1 / 1600000 * V + V * (63 * u32)) ∧ In g3 (1 / 1600000 * V + V * (63 * u32))) := by
  obtain ⟨r1, r2, r3⟩ := rot_err ht hv i1 i2 i3 i4 v1 v2 v3 hV1 hV2
  refine ⟨⟨r1.1, r2.1, r3.1⟩, ?_⟩
  obtain ⟨e1, h1, k1⟩ := near_err' r1.2
  obtain ⟨e2, h2, k2⟩ := near_err' r2.2
  obtain ⟨e3, h3, k3⟩ := near_err' r3.2
  rw [qx_px, hS] at h1
  rw [qy_py, hS] at h2
  rw [qz_pz, hS] at h3
  have hd : In (1 - S) (1 / 1600000) := ⟨by have := hS1.2; grind, by have := hS1.1; grind⟩
  exact ⟨(1 - S) * R1 v.1 + e1, (1 - S) * R1 v.2.1 + e2, (1 - S) * R1 v.2.2.1 + e3, by rw [← Rat.add_assoc]; exact h1, by rw [← Rat.add_assoc]; exact h2, by rw [← Rat.add_assoc]; exact h3,
    (hA.smul hd).add (NB.of k1 k2 k3), (hd.mul v1).add k1, (hd.mul v2).add k2, (hd.mul v3).add k3⟩

theorem QV.R {v : dVec} (h : QV v) : finV v ∧ In (R1 v.1) 4 ∧ In (R1 v.2.1) 4 ∧ In (R1 v.2.2.1) 4 := ⟨⟨h.1.R.2.1, h.2.1.R.2.1, h.2.2.R.2.1⟩, h.1.R.2.2.1, h.2.1.R.2.2.1, h.2.2.R.2.2.1⟩

/-- Lengths are kept. -/
theorem rot_len {t : dTurn} {v : dVec} (ht : NT t) (hv : QV v) : ∃ nu nv, g_i_LongOf (t_i_RotateBy t v) = some nu ∧ g_i_LongOf v = some nv ∧ fin .f32 nu ∧ fin .f32 nv ∧ nu < 2 ^ 32 ∧ nv < 2 ^ 32 ∧ In (R1 nu - R1 nv) (9 / 100000) := by
  obtain ⟨vf, v1, v2, v3⟩ := hv.R
  obtain ⟨i1, i2, i3, i4⟩ := ht.comp
  obtain ⟨_, tf, hS1⟩ := ht
  obtain ⟨nv, a1, a2, a3, a4, a5, a6, a7⟩ := long_R vf v1 v2 v3 (by decide)
  have hN := a6 _ (NB.of v1 v2 v3)
  -- how great v is
  have hA : NB (R1 v.1) (R1 v.2.1) (R1 v.2.2.1) (R1 nv * (1000001 / 1000000) + 1 / 100000000) := a5.mono (by unfold tin; grind)
  obtain ⟨b1, b2, b3⟩ := hA.comp
  obtain ⟨uf, g1, g2, g3, e1, e2, e3, hg, _⟩ := rot_parts tf vf i1 i2 i3 i4 rfl hS1 b1 b2 b3 (by grind) (by unfold tin at hN; grind) hA
  generalize hS : R1 t.1 * R1 t.1 + R1 t.2.1 * R1 t.2.1 + R1 t.2.2.1 * R1 t.2.2.1 + R1 t.2.2.2.1 * R1 t.2.2.2.1 = S at *
  have hS0 : 0 ≤ S := by have := hS1.1; grind
  have hP := p_NB hS hS0 hA
  have hSA := Rat.mul_le_mul_of_nonneg_right hS1.2 hA.2
  have hg' := hg.mono (B := (R1 nv * (1000001 / 1000000) + 1 / 100000000) * (72 / 10000000)) (by unfold u32; have := hA.2; grind)
  have hu := (hP.add hg').mono (B := (R1 nv * (1000001 / 1000000) + 1 / 100000000) * (10000079 / 10000000)) (by have := hA.2; grind)
  rw [← e1, ← e2, ← e3] at hu
  obtain ⟨u1, u2, u3⟩ := hu.comp
  obtain ⟨nu, c1, c2, c3, c4, c5, c6, _⟩ := long_R uf u1 u2 u3 (by unfold tin at hN; grind)
  refine ⟨nu, nv, c1, a1, c2, a2, c3, a3, ?_⟩
  have up := c6 _ hu
  -- the other way
  have hP' : NB (px (R1 t.1) (R1 t.2.1) (R1 t.2.2.1) (R1 t.2.2.2.1) (R1 v.1) (R1 v.2.1) (R1 v.2.2.1)) (py (R1 t.1) (R1 t.2.1) (R1 t.2.2.1) (R1 t.2.2.2.1) (R1 v.1) (R1 v.2.1) (R1 v.2.2.1)) (pz (R1 t.1) (R1 t.2.1) (R1 t.2.2.1) (R1 t.2.2.2.1) (R1 v.1) (R1 v.2.1) (R1 v.2.2.1)) (R1 nu * (1000001 / 1000000) + tin + (R1 nv * (1000001 / 1000000) + 1 / 100000000) * (72 / 10000000)) := by
    have h := c5.add hg'.neg
    rw [e1, e2, e3] at h
    have s : ∀ a g : Rat, a + g + -g = a := fun a g => by grind
    rw [s, s, s] at h
    exact h
  have hp1 := hP'.1
  rw [p_norm, hS] at hp1
  have lo : S * R1 nv ≤ (R1 nu * (1000001 / 1000000) + tin + (R1 nv * (1000001 / 1000000) + 1 / 100000000) * (72 / 10000000)) * (1000001 / 1000000) + tin := by
    have hK := hP'.2
    generalize R1 nu * (1000001 / 1000000) + tin + (R1 nv * (1000001 / 1000000) + 1 / 100000000) * (72 / 10000000) = K at *
    refine le_of_sq (by unfold tin; grind) ?_
    have h2 := a7.2
    have hvv : 0 ≤ R1 v.1 * R1 v.1 + R1 v.2.1 * R1 v.2.1 + R1 v.2.2.1 * R1 v.2.2.1 := by have := sq_nn (R1 v.1); have := sq_nn (R1 v.2.1); have := sq_nn (R1 v.2.2.1); grind
    generalize R1 v.1 * R1 v.1 + R1 v.2.1 * R1 v.2.1 + R1 v.2.2.1 * R1 v.2.2.1 = W at *
    have hSS := sq_nn S
    have hSS2 : S * S ≤ 2 := by have := sq_le hS0 (show S ≤ 5 / 4 by have := hS1.2; grind); grind
    have h3 := Rat.mul_le_mul_of_nonneg_left h2 hSS
    have h4 : S * R1 nv * (S * R1 nv) = S * S * (R1 nv * R1 nv) := by grind
    have h5 : (K * (1000001 / 1000000) + tin) * (K * (1000001 / 1000000) + tin) = K * K * (1000001 / 1000000 * (1000001 / 1000000)) + K * (2 * tin * (1000001 / 1000000)) + tin * tin := by grind
    have hKK := sq_nn K
    rw [h4, h5]
    clear h2 hvv a7 c6 c5 hu hg hg' hP hP' up a6 a5
    unfold tin at *
    grind
  have hSl := Rat.mul_le_mul_of_nonneg_right hS1.1 a4
  unfold tin at *
  exact ⟨by grind, by grind⟩

theorem inv_fin {t : dTurn} (ho : okT t) (hf : finT t) : finT (t_i_InverseOf t) ∧ R1 (t_i_InverseOf t).1 = R1 t.1 ∧ R1 (t_i_InverseOf t).2.1 = -R1 t.2.1 ∧ R1 (t_i_InverseOf t).2.2.1 = -R1 t.2.2.1 ∧ R1 (t_i_InverseOf t).2.2.2.1 = -R1 t.2.2.2.1 := by
  obtain ⟨a1, b1⟩ := fneg_R ho.2.1 hf.2.1
  obtain ⟨a2, b2⟩ := fneg_R ho.2.2.1 hf.2.2.1
  obtain ⟨a3, b3⟩ := fneg_R ho.2.2.2 hf.2.2.2
  exact ⟨⟨hf.1, a1, a2, a3⟩, rfl, b1, b2, b3⟩

/-- The inverse leads nearly back. -/
theorem rot_back {t : dTurn} {v : dVec} (ht : NT t) (hv : QV v) : ∃ n, g_i_LongOf (t_i_LessVectors (t_i_RotateBy (t_i_InverseOf t) (t_i_RotateBy t v)) v) = some n ∧ fin .f32 n ∧ n < 2 ^ 32 ∧ R1 n ≤ 95 / 1000000 := by
  obtain ⟨vf, v1, v2, v3⟩ := hv.R
  obtain ⟨i1, i2, i3, i4⟩ := ht.comp
  obtain ⟨to, tf, hS1⟩ := ht
  have hA : NB (R1 v.1) (R1 v.2.1) (R1 v.2.2.1) (69284 / 10000) := (NB.of v1 v2 v3).mono (by decide +kernel)
  obtain ⟨uf, g1, g2, g3, e1, e2, e3, hg, _⟩ := rot_parts tf vf i1 i2 i3 i4 rfl hS1 v1 v2 v3 (by decide +kernel) (by decide +kernel) hA
  obtain ⟨jf, j1, j2, j3, j4⟩ := inv_fin to tf
  generalize hS : R1 t.1 * R1 t.1 + R1 t.2.1 * R1 t.2.1 + R1 t.2.2.1 * R1 t.2.2.1 + R1 t.2.2.2.1 * R1 t.2.2.2.1 = S at *
  have hS0 : 0 ≤ S := by have := hS1.1; grind
  have hSi : R1 (t_i_InverseOf t).1 * R1 (t_i_InverseOf t).1 + R1 (t_i_InverseOf t).2.1 * R1 (t_i_InverseOf t).2.1 + R1 (t_i_InverseOf t).2.2.1 * R1 (t_i_InverseOf t).2.2.1 + R1 (t_i_InverseOf t).2.2.2.1 * R1 (t_i_InverseOf t).2.2.2.1 = S := by
    rw [j1, j2, j3, j4, ← hS]; grind
  have hP := p_NB hS hS0 hA
  have hSA := Rat.mul_le_mul_of_nonneg_right hS1.2 hA.2
  have hg' := hg.mono (B := 304 / 10000000) (by unfold u32; decide +kernel)
  have hu := (hP.add hg').mono (B := 69285 / 10000) (by grind)
  rw [← e1, ← e2, ← e3] at hu
  obtain ⟨u1, u2, u3⟩ := hu.comp
  obtain ⟨bf, k1, k2, k3, f1, f2, f3, hk, _⟩ := rot_parts jf uf (by rw [j1]; exact i1) (by rw [j2]; exact i2.neg) (by rw [j3]; exact i3.neg) (by rw [j4]; exact i4.neg) hSi hS1 u1 u2 u3 (by decide +kernel) (by decide +kernel) hu
  have hk' := hk.mono (B := 500 / 10000000) (by unfold u32; decide +kernel)
  -- back, less v
  rw [e1, e2, e3, j1, j2, j3, j4] at f1 f2 f3
  rw [px_add, px_inv, hS] at f1
  rw [py_add, py_inv, hS] at f2
  rw [pz_add, pz_inv, hS] at f3
  have hS3 : R1 t.1 * R1 t.1 + -R1 t.2.1 * -R1 t.2.1 + -R1 t.2.2.1 * -R1 t.2.2.1 + -R1 t.2.2.2.1 * -R1 t.2.2.2.1 = S := by rw [← hS]; grind
  have hq := p_NB hS3 hS0 hg'
  have hSq := Rat.mul_le_mul_of_nonneg_right hS1.2 hg'.2
  have hSS : In (S * S - 1) (13 / 10000000) := by
    have h1 : In (S - 1) (1 / 1600000) := ⟨by have := hS1.1; grind, by have := hS1.2; grind⟩
    have h2 : In (S + 1) (2000001 / 1000000) := ⟨by have := hS1.1; grind, by have := hS1.2; grind⟩
    have h3 := h1.mul h2
    rw [show (S - 1) * (S + 1) = S * S - 1 by grind] at h3
    exact h3.mono (by decide +kernel)
  have hd := (((hA.smul hSS).add hq).add hk').mono (B := 898 / 10000000) (by grind)
  have hd1 : NB (R1 (t_i_RotateBy (t_i_InverseOf t) (t_i_RotateBy t v)).1 - R1 v.1) (R1 (t_i_RotateBy (t_i_InverseOf t) (t_i_RotateBy t v)).2.1 - R1 v.2.1) (R1 (t_i_RotateBy (t_i_InverseOf t) (t_i_RotateBy t v)).2.2.1 - R1 v.2.2.1) (898 / 10000000) := by
    have s : ∀ a p k c : Rat, S * S * a + p + k - a = (S * S - 1) * a + p + k := fun a p k c => by grind
    rw [f1, f2, f3, s _ _ _ 0, s _ _ _ 0, s _ _ _ 0]
    exact hd
  clear f1 f2 f3 hd hk hk' hq e1 e2 e3 hg hg'
  generalize t_i_RotateBy (t_i_InverseOf t) (t_i_RotateBy t v) = b at *
  obtain ⟨c1, c2, c3⟩ := hd1.comp
  have sb : ∀ {x y : Nat}, fin .f32 x → fin .f32 y → In (R1 x - R1 y) (898 / 10000000) → fin .f32 (fsub .f32 x y) ∧ Near (R1 (fsub .f32 x y)) (R1 x - R1 y) (1 / 100000000) := fun hx hy h => by
    obtain ⟨s1, s2⟩ := sub_R hx hy h (Rat.le_trans (by decide +kernel) big_top)
    exact ⟨s1, s2.mono (by rw [un32]; decide +kernel)⟩
  obtain ⟨m1, l1⟩ := sb bf.1 vf.1 c1
  obtain ⟨m2, l2⟩ := sb bf.2.1 vf.2.1 c2
  obtain ⟨m3, l3⟩ := sb bf.2.2 vf.2.2 c3
  obtain ⟨d1, q1, r1⟩ := near_err' l1
  obtain ⟨d2, q2, r2⟩ := near_err' l2
  obtain ⟨d3, q3, r3⟩ := near_err' l3
  have hl := (hd1.add (NB.of r1 r2 r3)).mono (B := 9 / 100000) (by decide +kernel)
  rw [← q1, ← q2, ← q3] at hl
  obtain ⟨o1, o2, o3⟩ := hl.comp
  obtain ⟨n, n1, n2, n3, n4, _, n6, _⟩ := long_R (t := t_i_LessVectors b v) ⟨m1, m2, m3⟩ o1 o2 o3 (by decide +kernel)
  exact ⟨n, n1, n2, n3, Rat.le_trans (n6 _ hl) (by unfold tin; decide +kernel)⟩

theorem small_gt {n : Nat} (h1 : fin .f32 n) (h2 : n < 2 ^ 32) (h : R1 n ≤ 95 / 1000000) : fgt .f64 (fwide n) 4547007122018943789 = false ∧ flt .f64 (fwide n) 4547007122018943789 = true := by
  obtain ⟨w1, w2⟩ := wide_R h2 h1
  have ht : fin .f64 4547007122018943789 := fin64_dec (by decide +kernel)
  have := tol4
  rw [fgt_R w1 ht, flt_R w1 ht, w2]
  unfold R1 at h
  exact ⟨decide_eq_false (by grind), decide_eq_true (by grind)⟩

/-- The unit vectors, turned. -/
theorem rot_cross {t : dTurn} (ht : NT t) : ∃ n, g_i_LongOf (t_i_LessVectors (t_i_CrossOf (t_i_RotateBy t (1065353216, (0, (0, ())))) (t_i_RotateBy t (0, (1065353216, (0, ()))))) (t_i_RotateBy t (0, (0, (1065353216, ()))))) = some n ∧ fin .f32 n ∧ n < 2 ^ 32 ∧ R1 n ≤ 95 / 1000000 := by
  obtain ⟨i1, i2, i3, i4⟩ := ht.comp
  obtain ⟨to, tf, hS1⟩ := ht
  have f1 : fin .f32 1065353216 := one_Ev.1
  have f0 : fin .f32 0 := zero_Ev.1
  have r1 : R1 1065353216 = 1 := by decide +kernel
  have r0 : R1 0 = 0 := R_zero _
  have z1 : In (0 : Rat) 1 := ⟨by decide +kernel, by decide +kernel⟩
  have o1 : In (1 : Rat) 1 := ⟨by decide +kernel, by decide +kernel⟩
  have nb : ∀ a b c : Rat, a * a + b * b + c * c = 1 → NB a b c 1 := fun a b c h => ⟨by rw [h]; decide +kernel, by decide +kernel⟩
  obtain ⟨xf, a1, a2, a3, x1, x2, x3, _, p1, p2, p3⟩ := rot_parts (V := 1) (A := 1) tf (v := (1065353216, (0, (0, ())))) ⟨f1, f0, f0⟩ i1 i2 i3 i4 rfl hS1 (by rw [r1]; exact o1) (by rw [r0]; exact z1) (by rw [r0]; exact z1) (by decide +kernel) (by decide +kernel) (by dsimp only; rw [r1, r0]; exact nb _ _ _ (by decide +kernel))
  obtain ⟨yf, b1, b2, b3, y1, y2, y3, _, q1, q2, q3⟩ := rot_parts (V := 1) (A := 1) tf (v := (0, (1065353216, (0, ())))) ⟨f0, f1, f0⟩ i1 i2 i3 i4 rfl hS1 (by rw [r0]; exact z1) (by rw [r1]; exact o1) (by rw [r0]; exact z1) (by decide +kernel) (by decide +kernel) (by dsimp only; rw [r1, r0]; exact nb _ _ _ (by decide +kernel))
  obtain ⟨zf, c1, c2, c3, z1', z2, z3, _, s1, s2, s3⟩ := rot_parts (V := 1) (A := 1) tf (v := (0, (0, (1065353216, ())))) ⟨f0, f0, f1⟩ i1 i2 i3 i4 rfl hS1 (by rw [r0]; exact z1) (by rw [r0]; exact z1) (by rw [r1]; exact o1) (by decide +kernel) (by decide +kernel) (by dsimp only; rw [r1, r0]; exact nb _ _ _ (by decide +kernel))
  dsimp only at x1 x2 x3 y1 y2 y3 z1' z2 z3
  rw [r1, r0] at x1 x2 x3 y1 y2 y3 z1' z2 z3
  generalize hS : R1 t.1 * R1 t.1 + R1 t.2.1 * R1 t.2.1 + R1 t.2.2.1 * R1 t.2.2.1 + R1 t.2.2.2.1 * R1 t.2.2.2.1 = S at *
  generalize t_i_RotateBy t (1065353216, (0, (0, ()))) = X at *
  generalize t_i_RotateBy t (0, (1065353216, (0, ()))) = Y at *
  generalize t_i_RotateBy t (0, (0, (1065353216, ()))) = Z' at *
  have hS0 : 0 ≤ S := by have := hS1.1; grind
  have n1 := (p_NB hS hS0 (nb 1 0 0 (by decide +kernel))).comp
  have n2 := (p_NB hS hS0 (nb 0 1 0 (by decide +kernel))).comp
  have n3 := (p_NB hS hS0 (nb 0 0 1 (by decide +kernel))).comp
  have hSb : S * 1 ≤ 1000001 / 1000000 := by have := hS1.2; grind
  -- exact: across the first two stands the third
  have id1 : py (R1 t.1) (R1 t.2.1) (R1 t.2.2.1) (R1 t.2.2.2.1) 1 0 0 * pz (R1 t.1) (R1 t.2.1) (R1 t.2.2.1) (R1 t.2.2.2.1) 0 1 0 - pz (R1 t.1) (R1 t.2.1) (R1 t.2.2.1) (R1 t.2.2.2.1) 1 0 0 * py (R1 t.1) (R1 t.2.1) (R1 t.2.2.1) (R1 t.2.2.2.1) 0 1 0 = S * px (R1 t.1) (R1 t.2.1) (R1 t.2.2.1) (R1 t.2.2.2.1) 0 0 1 := by rw [← hS]; unfold px py pz; grind
  have id2 : pz (R1 t.1) (R1 t.2.1) (R1 t.2.2.1) (R1 t.2.2.2.1) 1 0 0 * px (R1 t.1) (R1 t.2.1) (R1 t.2.2.1) (R1 t.2.2.2.1) 0 1 0 - px (R1 t.1) (R1 t.2.1) (R1 t.2.2.1) (R1 t.2.2.2.1) 1 0 0 * pz (R1 t.1) (R1 t.2.1) (R1 t.2.2.1) (R1 t.2.2.2.1) 0 1 0 = S * py (R1 t.1) (R1 t.2.1) (R1 t.2.2.1) (R1 t.2.2.2.1) 0 0 1 := by rw [← hS]; unfold px py pz; grind
  have id3 : px (R1 t.1) (R1 t.2.1) (R1 t.2.2.1) (R1 t.2.2.2.1) 1 0 0 * py (R1 t.1) (R1 t.2.1) (R1 t.2.2.1) (R1 t.2.2.2.1) 0 1 0 - py (R1 t.1) (R1 t.2.1) (R1 t.2.2.1) (R1 t.2.2.2.1) 1 0 0 * px (R1 t.1) (R1 t.2.1) (R1 t.2.2.1) (R1 t.2.2.2.1) 0 1 0 = S * pz (R1 t.1) (R1 t.2.1) (R1 t.2.2.1) (R1 t.2.2.2.1) 0 0 1 := by rw [← hS]; unfold px py pz; grind
  have ap : ∀ {x : Nat} {p a : Rat}, fin .f32 x → R1 x = p + a → In a (1 / 1600000 * 1 + 1 * (63 * u32)) → Ap x p (44 / 10000000) := fun hf h ha => by
    have hb : 1 / 1600000 * 1 + 1 * (63 * u32) ≤ (44 / 10000000 : Rat) := by unfold u32; decide +kernel
    have := ha.1
    have := ha.2
    unfold R1 at h
    exact ⟨hf, by rw [h]; grind, by rw [h]; grind⟩
  have X1 := ap xf.1 x1 p1; have X2 := ap xf.2.1 x2 p2; have X3 := ap xf.2.2 x3 p3
  have Y1 := ap yf.1 y1 q1; have Y2 := ap yf.2.1 y2 q2; have Y3 := ap yf.2.2 y3 q3
  have Z1 := ap zf.1 z1' s1; have Z2 := ap zf.2.1 z2 s2; have Z3 := ap zf.2.2 z3 s3
  generalize px (R1 t.1) (R1 t.2.1) (R1 t.2.2.1) (R1 t.2.2.2.1) 1 0 0 = Px at *
  generalize py (R1 t.1) (R1 t.2.1) (R1 t.2.2.1) (R1 t.2.2.2.1) 1 0 0 = Py at *
  generalize pz (R1 t.1) (R1 t.2.1) (R1 t.2.2.1) (R1 t.2.2.2.1) 1 0 0 = Pz at *
  generalize px (R1 t.1) (R1 t.2.1) (R1 t.2.2.1) (R1 t.2.2.2.1) 0 1 0 = Qx at *
  generalize py (R1 t.1) (R1 t.2.1) (R1 t.2.2.1) (R1 t.2.2.2.1) 0 1 0 = Qy at *
  generalize pz (R1 t.1) (R1 t.2.1) (R1 t.2.2.1) (R1 t.2.2.2.1) 0 1 0 = Qz at *
  generalize px (R1 t.1) (R1 t.2.1) (R1 t.2.2.1) (R1 t.2.2.2.1) 0 0 1 = Tx at *
  generalize py (R1 t.1) (R1 t.2.1) (R1 t.2.2.1) (R1 t.2.2.2.1) 0 0 1 = Ty at *
  generalize pz (R1 t.1) (R1 t.2.1) (R1 t.2.2.1) (R1 t.2.2.2.1) 0 0 1 = Tz at *
  -- one part of the difference
  have part : ∀ {p q r s z : Nat} {P Q R' S' T' : Rat}, Ap p P (44 / 10000000) → Ap q Q (44 / 10000000) → Ap r R' (44 / 10000000) → Ap s S' (44 / 10000000) → Ap z T' (44 / 10000000) → In P (S * 1) → In Q (S * 1) → In R' (S * 1) → In S' (S * 1) → In T' (S * 1) → P * Q - R' * S' = S * T' →
      fin .f32 (fsub .f32 (fsub .f32 (fmul .f32 p q) (fmul .f32 r s)) z) ∧ In (R1 (fsub .f32 (fsub .f32 (fmul .f32 p q) (fmul .f32 r s)) z)) (25 / 1000000) := by
    intro p q r s z P Q R' S' T' hp hq hr hs hz bp bq br bs bt he
    have bp := bp.mono hSb; have bq := bq.mono hSb; have br := br.mono hSb; have bs := bs.mono hSb; have bt := bt.mono hSb
    have m1 := (hp.mul hq bp bq ((bp.mul bq).mono (N := 1000003 / 1000000) (by decide +kernel)) (by decide +kernel)).mono (f := 89 / 10000000) (by decide +kernel)
    have m2 := (hr.mul hs br bs ((br.mul bs).mono (N := 1000003 / 1000000) (by decide +kernel)) (by decide +kernel)).mono (f := 89 / 10000000) (by decide +kernel)
    have hST : In (S * T') (1000003 / 1000000) := by
      have h1 : In S (1000001 / 1000000) := ⟨by grind, by grind⟩
      exact (h1.mul bt).mono (by decide +kernel)
    have m3 := (m1.sub m2 (M := 1000003 / 1000000) (by rw [he]; exact hST) (by decide +kernel)).mono (f := 180 / 10000000) (by decide +kernel)
    rw [he] at m3
    have hd : In (S * T' - T') (7 / 10000000) := by
      have h1 : In (S - 1) (1 / 1600000) := ⟨by have := hS1.1; grind, by have := hS1.2; grind⟩
      have h2 := h1.mul bt
      rw [show (S - 1) * T' = S * T' - T' by grind] at h2
      exact h2.mono (by decide +kernel)
    have m4 := m3.sub hz hd (by decide +kernel)
    have m5 := (m4.inn hd).mono (N := 25 / 1000000) (by decide +kernel)
    exact ⟨m4.1, m5⟩
  obtain ⟨t1, w1⟩ := part X2 Y3 X3 Y2 Z1 n1.2.1 n2.2.2 n1.2.2 n2.2.1 n3.1 id1
  obtain ⟨t2, w2⟩ := part X3 Y1 X1 Y3 Z2 n1.2.2 n2.1 n1.1 n2.2.2 n3.2.1 id2
  obtain ⟨t3, w3⟩ := part X1 Y2 X2 Y1 Z3 n1.1 n2.2.1 n1.2.1 n2.1 n3.2.2 id3
  have hl := NB.of w1 w2 w3
  obtain ⟨n, k1, k2, k3, k4, _, k6, _⟩ := long_R (t := t_i_LessVectors (t_i_CrossOf X Y) Z') ⟨t1, t2, t3⟩ w1 w2 w3 (by decide +kernel)
  exact ⟨n, k1, k2, k3, Rat.le_trans (k6 _ hl) (by unfold tin; decide +kernel)⟩

theorem v_FnRotations (code more : List Int) (hok : okPs [.ro false (.slice (.int .u8)), .ro false (.slice (.int .u8))] (code, more, ())) : g_w_FnRotations code more = some true := by
  have hc : ∀ x ∈ code, 0 ≤ x ∧ x ≤ 255 := fun x hx => hok.1.2 x hx
  have hm : ∀ x ∈ more, 0 ≤ x ∧ x ≤ 255 := fun x hx => hok.2.1.2 x hx
  unfold g_w_FnRotations
  cases hL : t_w_r8Long code more
  rotate_left
  · rfl
  obtain ⟨hcl, hml⟩ := r8Long_F' hL
  obtain ⟨t, e1, ht⟩ := rq_R8Turn hc hcl
  obtain ⟨v, e2, hv⟩ := rq_R8Small hm hml
  obtain ⟨nu, nv, a1, a2, a3, a4, a5, a6, a7⟩ := rot_len ht hv
  obtain ⟨n, b1, b2, b3, b4⟩ := rot_back ht hv
  obtain ⟨k, c1, c2, c3, c4⟩ := rot_cross ht
  obtain ⟨wu1, wu2⟩ := wide_R a5 a3
  obtain ⟨wv1, wv2⟩ := wide_R a6 a4
  have hgap := gap_small wu1 wv1 (by rw [wu2, wv2]; exact a7.mono (by decide +kernel))
  rw [cond_f, e1, opt_bind_some]
  dsimp only
  rw [e2, opt_bind_some, matrix_of, opt_bind_some, a1, opt_bind_some, a2, opt_bind_some, hgap, cond_f, b1, opt_bind_some, (small_gt b2 b3 b4).1, cond_f]
  show (bif (!(ieq (9 : Int) 9)) then _ else _) = _
  have h9 : (!(ieq (9 : Int) 9)) = false := by decide
  rw [h9, cond_f]
  have hix : ∀ i : Nat, i < 9 → ix (i : Int) 9 = some i := fun i hi => ix_nat hi
  simp only [List.length_cons, List.length_nil, Nat.zero_add, Nat.reduceAdd]
  rw [show ix 0 9 = some 0 from rfl, show ix 1 9 = some 1 from rfl, show ix 2 9 = some 2 from rfl, show ix 3 9 = some 3 from rfl, show ix 4 9 = some 4 from rfl, show ix 5 9 = some 5 from rfl, show ix 6 9 = some 6 from rfl, show ix 7 9 = some 7 from rfl, show ix 8 9 = some 8 from rfl]
  simp only [opt_bind_some]
  show Option.bind (g_i_SameVector _ (_, (_, (_, ())))) _ = _
  have sv := c_SameVector_self (rotate_okV t (1065353216, (0, (0, ()))))
  have sv2 := c_SameVector_self (rotate_okV t (0, (1065353216, (0, ()))))
  have sv3 := c_SameVector_self (rotate_okV t (0, (0, (1065353216, ()))))
  simp only [List.getD_cons_zero, List.getD_cons_succ]
  rw [sv, opt_bind_some, bnot_t, cond_f, sv2, opt_bind_some, bnot_t, cond_f, sv3, opt_bind_some, bnot_t, cond_f, c1, opt_bind_some, (small_gt c2 c3 c4).2]
end Go.Fw
