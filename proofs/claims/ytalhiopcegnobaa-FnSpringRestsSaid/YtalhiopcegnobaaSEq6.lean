/- The sine of a word, and of two that are nearly opposite. No condition. -/
import Derived.Test.YtalhiopcegnobaaSEq5
set_option linter.unusedVariables false
set_option linter.unusedSimpArgs false
namespace Go.Fw
open Ieee

theorem abs_R {y : Nat} (hf : fin .f64 y) : fin .f64 (t_mathabs y) ∧ R .f64 (t_mathabs y) = (V .f64 y : Rat) * w2 FloatKind.f64.format.leastPlace := by
  have habs : t_mathabs y = y % 2 ^ 63 := by
    unfold t_mathabs abs64
    refine canon_num ?_
    rw [isNan_mod .f64 (y % 2 ^ 63) y (by show y % 2 ^ 63 % 2 ^ 63 = y % 2 ^ 63; rw [Nat.mod_mod])]
    exact fin_nan hf
  have hfa : fin .f64 (y % 2 ^ 63) ∧ V .f64 (y % 2 ^ 63) = V .f64 y ∧ sg .f64 (y % 2 ^ 63) = false := by
    have hsw : FloatKind.f64.format.signWeight = 2 ^ 63 := rfl
    unfold fin V sg at *
    rw [hsw, Nat.mod_mod]
    rw [hsw] at hf
    refine ⟨hf, rfl, ?_⟩
    rw [Nat.div_eq_of_lt (Nat.mod_lt _ (by decide))]
    rfl
  rw [habs]
  exact ⟨hfa.1, by rw [R_V, hfa.2.1, hfa.2.2]; rfl⟩

theorem two52 : fin .f64 4841369599423283200 ∧ R .f64 4841369599423283200 = 4503599627370496 := ⟨fin64_dec (by decide +kernel), by decide +kernel⟩

/-- The sine of a word. -/
theorem sine_word {x : Nat} (hx : x < 2 ^ 32) (hf : fin .f32 x) (hb : In (R1 x) 8) : ∃ (w : Nat) (t F : Rat) (N : Int), g_i_SineTurns x = some w ∧ okF .f32 w ∧ fin .f32 w ∧ TT F t ∧ In t (250001 / 1000000) ∧ Near (R1 w) (Sz (tau * t)) (61 / 1000000000) ∧
    -(1 / 1000000000000000) ≤ F ∧ F ≤ 1 + 1 / 1000000000000000 ∧ In (F - (R1 x - N)) (1 / 1000000000000000) := by
  obtain ⟨y1, y2⟩ := wide_R hx hf
  have hy64 : fwide x < 2 ^ 64 := (fwide_okF hx).1
  generalize hyx : fwide x = y at *
  have hb' : In (R .f64 y) 8 := by rw [y2]; exact hb
  obtain ⟨a1, a2⟩ := abs_R y1
  -- the size
  have hV : (V .f64 y : Rat) * w2 FloatKind.f64.format.leastPlace ≤ 8 := by
    rw [R_V] at hb'
    exact hb'.sgR (Rat.mul_nonneg Rat.natCast_nonneg (Rat.le_of_lt (w2_pos _)))
  obtain ⟨K, hK⟩ : ∃ K : Nat, K = 1074 := ⟨_, rfl⟩
  have hL : FloatKind.f64.format.leastPlace = -(K : Int) := by rw [hK]; rfl
  have hVn : V .f64 y ≤ 8 * 2 ^ K := by
    apply Rat.natCast_le_natCast.1
    rw [natR_mul, ← w2_nat]
    have h1 := Rat.mul_le_mul_of_nonneg_right hV (Rat.le_of_lt (w2_pos (K : Int)))
    rw [Rat.mul_assoc, ← w2_add, hL, show -(K : Int) + (K : Int) = 0 by omega, w2_zero] at h1
    have e8 : ((8 : Nat) : Rat) = 8 := rfl
    rw [e8]; grind
  have hpos := Nat.two_pow_pos K
  have hlt : V .f64 y < 2 ^ K * 2 ^ 52 := by
    have : (2 : Nat) ^ 52 = 4503599627370496 := rfl
    rw [this, Nat.mul_comm (2 ^ K)]
    omega
  obtain ⟨f, n, t0, f1, f2, f3, f4, f5, f6, f7⟩ := frac_same hK hy64 y1 hlt
  -- the whole part is small
  have hT := trunc_fin hK y1
  have hq8 : V .f64 y / 2 ^ K ≤ 8 := Nat.div_le_of_le_mul (by rw [Nat.mul_comm]; exact hVn)
  have hn8 : n.natAbs ≤ 8 := by
    have hti : (FloatKind.f64.decode y).toInt .zero = some (signed (sg .f64 y) (V .f64 y / 2 ^ K) 0) := by
      unfold Datum.toInt; rw [hT]
    unfold floatToIntVal at f3
    rw [hti] at f3
    dsimp only at f3
    split at f3
    · have := Option.some.inj f3
      rw [← this, signed_eq, Nat.pow_zero, Nat.mul_one]
      generalize V .f64 y / 2 ^ K = u at *
      cases sg .f64 y <;> simp <;> omega
    · cases f3
  obtain ⟨n1, n2⟩ := fofInt_R (n := n) (by omega)
  -- the rest
  have fR : In (R .f64 f) 1 := by
    have h1 : (V .f64 f : Rat) * w2 FloatKind.f64.format.leastPlace ≤ 1 := by
      have h2 : (V .f64 f : Rat) ≤ ((2 ^ K : Nat) : Rat) := Rat.natCast_le_natCast.2 f2
      have h3 := Rat.mul_le_mul_of_nonneg_right h2 (Rat.le_of_lt (w2_pos FloatKind.f64.format.leastPlace))
      rw [← w2_nat, ← w2_add, hL, show (K : Int) + -(K : Int) = 0 by omega, w2_zero, ← hL] at h3
      exact h3
    have h0 : 0 ≤ (V .f64 f : Rat) * w2 FloatKind.f64.format.leastPlace := Rat.mul_nonneg Rat.natCast_nonneg (Rat.le_of_lt (w2_pos _))
    rw [R_V]
    cases sg .f64 f
    · exact ⟨by show -1 ≤ _ * _; grind, h1⟩
    · exact ⟨by show -1 ≤ -(_ * _); grind, by show -(_ * _) ≤ 1; grind⟩
  have nin : In (n : Rat) 8 := by
    have u : (n : Rat) ≤ ((8 : Int) : Rat) := Rat.intCast_le_intCast.2 (by omega)
    have l : ((-8 : Int) : Rat) ≤ (n : Rat) := Rat.intCast_le_intCast.2 (by omega)
    have e8 : ((8 : Int) : Rat) = 8 := rfl
    have em8 : ((-8 : Int) : Rat) = -8 := rfl
    rw [e8] at u
    rw [em8] at l
    exact ⟨by grind, u⟩
  have hf1 : Near (R .f64 f) (R1 x - n) (2 / 10000000000000000) := by
    obtain ⟨s1, s2⟩ := sub_R y1 n1 (M := 16) (by rw [n2]; exact (hb'.sub nin).mono (by decide +kernel)) (Rat.le_trans (show (16 : Rat) ≤ 1000000 by decide +kernel) big10)
    rw [f4, n2, un64] at s2
    have hd : In (R .f64 y - n) (10001 / 10000) := ⟨by have := s2.2; have := fR.1; grind, by have := s2.1; have := fR.2; grind⟩
    obtain ⟨_, s3⟩ := sub_R y1 n1 (M := 10001 / 10000) (by rw [n2]; exact hd) (Rat.le_trans (show (10001 / 10000 : Rat) ≤ 1000000 by decide +kernel) big10)
    rw [f4, n2, un64, y2] at s3
    exact s3.mono (by decide +kernel)
  -- the share
  have hshare : ∃ N : Int, fin .f64 (bif flt .f64 f 0 then fadd .f64 f 4607182418800017408 else f) ∧ -(1 / 1000000000000000) ≤ R .f64 (bif flt .f64 f 0 then fadd .f64 f 4607182418800017408 else f) ∧ R .f64 (bif flt .f64 f 0 then fadd .f64 f 4607182418800017408 else f) ≤ 1 + 1 / 1000000000000000 ∧ In (R .f64 (bif flt .f64 f 0 then fadd .f64 f 4607182418800017408 else f) - (R1 x - N)) (1 / 1000000000000000) := by
    rw [flt_R f1 (zero_fin .f64), R_zero]
    by_cases hneg : R .f64 f < 0
    · rw [decide_eq_true hneg, cond_t]
      have a := ((Ad.self f1).add one_d (M := 1) ⟨by have := fR.1; grind, by grind⟩ (by decide +kernel)).mono (f := 2 / 10000000000000000) (by decide +kernel)
      refine ⟨n - 1, a.1, by have := a.2.1; have := fR.1; grind, by have := a.2.2; grind, ?_⟩
      have e1 : ((1 : Int) : Rat) = 1 := rfl
      rw [Rat.intCast_sub, e1]
      exact ⟨by have := a.2.1; have := hf1.1; grind, by have := a.2.2; have := hf1.2; grind⟩
    · rw [decide_eq_false hneg, cond_f]
      exact ⟨n, f1, by have := Rat.not_lt.1 hneg; grind, by have := fR.2; grind, ⟨by have := hf1.1; grind, by have := hf1.2; grind⟩⟩
  obtain ⟨N, h1, h2, h3, h4⟩ := hshare
  have hci := c_i_sine f5 f6 f7
  generalize (bif flt .f64 f 0 then fadd .f64 f 4607182418800017408 else f) = fw at *
  obtain ⟨r, t, r1, r2, r3, r4⟩ := sineOf_R h1 h2 h3
  have tin : In t (250001 / 1000000) := by
    rcases r3 with ⟨c1, rfl⟩ | ⟨c1, c2, rfl⟩ | ⟨c1, rfl⟩
    · exact ⟨by grind, by grind⟩
    · exact ⟨by grind, by grind⟩
    · exact ⟨by grind, by grind⟩
  have htau := tau_in
  have tauin : In tau (62831854 / 10000000) := ⟨by grind, htau.2⟩
  have hSz := Sz_le ((tauin.mul tin).mono (by decide +kernel))
  have hrin := r4.inn hSz
  obtain ⟨w, w1, w2', _, w4, _⟩ := conv_R r4.1 hrin (Rat.le_trans (show (10052 / 10000 + 1 / 10000000000000 : Rat) ≤ big32 by decide +kernel) big_top)
  refine ⟨w, t, R .f64 fw, N, ?_, fconv_okF r2.lt w1, w2', r3, tin, ?_, h2, h3, h4⟩
  · unfold g_i_SineTurns g_i_wideSine
    have hbig : fge .f64 (t_mathabs y) 4841369599423283200 = false := by
      rw [fge_R a1 two52.1, two52.2, a2]
      exact decide_eq_false (by grind)
    rw [hyx, (finite_iff .f64 y).2 y1, bnot_t, cond_f, hbig, cond_f, hci, r1, opt_bind_some, opt_bind_some, w1]; rfl
  · rw [un32] at w4
    have e32' := et_le .f32
    have := w4.1; have := w4.2; have := r4.2.1; have := r4.2.2
    unfold R1
    exact ⟨by grind, by grind⟩

/-- The wave of triangles does not rise faster than its place. -/
theorem TT_lip {F G t s X Y : Rat} {N M : Int} (hF : TT F t) (hG : TT G s) (F0 : -(1 / 1000000000000000) ≤ F) (F1 : F ≤ 1 + 1 / 1000000000000000) (G0 : -(1 / 1000000000000000) ≤ G) (G1 : G ≤ 1 + 1 / 1000000000000000)
    (hN : In (F - (X - N)) (1 / 1000000000000000)) (hM : In (G - (Y - M)) (1 / 1000000000000000)) {g : Rat} (hg : In (X + Y) g) (hg1 : g ≤ 1 / 100) : In (t + s) (g + 1 / 10000000000000) := by
  -- the whole part of the sum
  have hNM : In (F + G - (X + Y) + ((N + M : Int) : Rat)) (2 / 1000000000000000) := by
    rw [Rat.intCast_add]
    exact ⟨by have := hN.1; have := hM.1; grind, by have := hN.2; have := hM.2; grind⟩
  generalize hK : N + M = K at *
  have hK3 : ((-3 : Int) : Rat) < ((K : Int) : Rat) := by
    have e : ((-3 : Int) : Rat) = -3 := rfl
    rw [e]
    have := hNM.1; have := hg.1; grind
  have hK1 : ((K : Int) : Rat) < ((1 : Int) : Rat) := by
    have e : ((1 : Int) : Rat) = 1 := rfl
    rw [e]
    have := hNM.2; have := hg.2; grind
  have k3 := Rat.intCast_lt_intCast.1 hK3
  have k1 := Rat.intCast_lt_intCast.1 hK1
  have n1 := hNM.1; have n2 := hNM.2; have g1 := hg.1; have g2 := hg.2
  have hcase : ((K : Int) : Rat) = 0 ∨ ((K : Int) : Rat) = -1 ∨ ((K : Int) : Rat) = -2 := by
    have : K = 0 ∨ K = -1 ∨ K = -2 := by omega
    rcases this with h | h | h
    · exact .inl (by rw [h]; rfl)
    · exact .inr (.inl (by rw [h]; rfl))
    · exact .inr (.inr (by rw [h]; rfl))
  clear hN hM hNM hK hK3 hK1 k3 k1
  generalize ((K : Int) : Rat) = k at *
  generalize X + Y = S at *
  unfold TT at hF hG
  rcases hF with ⟨a1, rfl⟩ | ⟨a1, a2, rfl⟩ | ⟨a1, rfl⟩ <;> rcases hG with ⟨b1, rfl⟩ | ⟨b1, b2, rfl⟩ | ⟨b1, rfl⟩ <;> rcases hcase with rfl | rfl | rfl <;> exact ⟨by grind, by grind⟩

/-- The sines of words that are nearly opposite are nearly opposite. -/
theorem sine_gap {x y : Nat} (hx : x < 2 ^ 32) (hy : y < 2 ^ 32) (fx : fin .f32 x) (fy : fin .f32 y) (bx : In (R1 x) 8) (by' : In (R1 y) 8) {g : Rat} (hg : In (R1 x + R1 y) g) (hg1 : g ≤ 1 / 1000) :
    ∃ w v : Nat, g_i_SineTurns x = some w ∧ g_i_SineTurns y = some v ∧ okF .f32 w ∧ okF .f32 v ∧ fin .f32 w ∧ fin .f32 v ∧ In (R1 w) (10053 / 10000) ∧ In (R1 v) (10053 / 10000) ∧ In (R1 w + R1 v) (g * (64466 / 10000) + 123 / 1000000000) := by
  obtain ⟨w, t, F, N, w1, w2, w3, w4, w5, w6, w7, w8, w9⟩ := sine_word hx fx bx
  obtain ⟨v, s, G, M, v1, v2, v3, v4, v5, v6, v7, v8, v9⟩ := sine_word hy fy by'
  have g0 : 0 ≤ g := by have := hg.1; have := hg.2; grind
  have hts := TT_lip w4 v4 w7 w8 v7 v8 w9 v9 hg (by grind)
  have htau := tau_in
  have tauin : In tau (62831854 / 10000000) := ⟨by grind, htau.2⟩
  have i1 := (tauin.mul w5).mono (N := 1571 / 1000) (by decide +kernel)
  have i2 := (tauin.mul v5).mono (N := 1571 / 1000) (by decide +kernel)
  have z1 := Sz_le i1
  have z2 := Sz_le i2
  have i2' : In (-(tau * s)) (1571 / 1000) := i2.neg
  obtain ⟨D, d1, d2⟩ := Sz_lip i1 i2'
  rw [Sz_odd] at d1
  have hsum : In (Sz (tau * t) + Sz (tau * s)) (g * (64466 / 10000) + 1 / 1000000000000) := by
    have e : Sz (tau * t) + Sz (tau * s) = tau * (t + s) * D := by
      have : Sz (tau * t) - -Sz (tau * s) = Sz (tau * t) + Sz (tau * s) := by grind
      rw [← this, d1]; grind
    rw [e]
    exact ((tauin.mul hts).mul d2).mono (by grind)
  refine ⟨w, v, w1, v1, w2, v2, w3, v3, ⟨by have := w6.1; have := z1.1; grind, by have := w6.2; have := z1.2; grind⟩, ⟨by have := v6.1; have := z2.1; grind, by have := v6.2; have := z2.2; grind⟩, ?_⟩
  have := hsum.1; have := hsum.2; have := w6.1; have := w6.2; have := v6.1; have := v6.2
  exact ⟨by grind, by grind⟩
end Go.Fw
