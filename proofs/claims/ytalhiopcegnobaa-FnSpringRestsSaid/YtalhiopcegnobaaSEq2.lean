/- The reference's functions and the program's compute the same: swings. No condition. -/
import Derived.Test.YtalhiopcegnobaaSEq1
import Derived.Test.YtalhiopcegnobaaFwE
set_option linter.unusedVariables false
set_option linter.unusedSimpArgs false
namespace Go.Fw

/-! the sine of a share of a turn -/
theorem se_L_SineWide_1 : L_s_l01SineWide_1 = L_i_sine_1 := rfl

theorem one64 : bd 1074 4607182418800017408 := by
  unfold bd fin; decide +kernel
theorem half64 : bd 1074 4602678819172646912 := by
  unfold bd fin; decide +kernel
theorem whole64 : bd 1077 4618760256179416344 := by
  unfold bd fin; decide +kernel
theorem big64 : fin .f64 4841369599423283200 ∧ Z .f64 4841369599423283200 = 2 ^ 1126 ∧ fin .f64 14064741636278059008 ∧ Z .f64 14064741636278059008 = -(2 ^ 1126) := by
  unfold fin; decide +kernel
theorem den64 : ∀ k : Nat, k < 9 → 1 ≤ k → lo 1076 (fofInt .f64 (imul .i64 (imul .i64 2 (k : Int)) (iadd .i64 (imul .i64 2 (k : Int)) 1))) := by
  unfold lo fin; decide +kernel

theorem sine_loop (turned : Bool) (z u : Nat) (hu : bd 1086 u) : ∀ (k N p : Nat), k ≤ 8 → k < N → bd (1074 + 11 * (8 - k)) p →
    ∃ p', iter L_i_sine_1 N ((turned, (z, (u, (p, ((k : Int), ()))))), ()) = some ((turned, (z, (p', ()))), ()) ∧ bd 1162 p'
  | 0, N, p, _, hN, hp => by
    obtain _ | N := N
    · omega
    refine ⟨p, ?_, hp.up _ (by omega)⟩
    rw [iter_succ]
    simp only [L_i_sine_1]
    rfl
  | k + 1, N, p, hk, hN, hp => by
    obtain _ | N := N
    · omega
    have m := hu.mul (1086 + 11 * (8 - (k + 1))) hp (by omega) (by omega) (by omega)
    have q := m.div (1084 + 11 * (8 - (k + 1))) (den64 (k + 1) (by omega) (by omega)) (by omega) (by omega) (by omega)
    have s := one64.sub (1074 + 11 * (8 - k)) q (by omega) (by omega) (by omega) (by omega)
    obtain ⟨p', h1, h2⟩ := sine_loop turned z u hu k N _ (by omega) (by omega) s
    refine ⟨p', ?_, h2⟩
    rw [iter_succ]
    simp only [L_i_sine_1]
    rw [show ile 1 ((k + 1 : Nat) : Int) = true by simp [ile]; omega, cond_t, show isub .i64 ((k + 1 : Nat) : Int) 1 = (k : Int) by rw [isub_ok (by omega) (by omega)]; omega]
    exact h1

/-- What is made of a place on the first half. -/
def sineEnd (turned : Bool) (f : Nat) : Option Nat :=
  Option.bind (iter L_i_sine_1 fuel ((turned, ((fmul .f64 f 4618760256179416344), ((fmul .f64 (fmul .f64 f 4618760256179416344) (fmul .f64 f 4618760256179416344)), (4607182418800017408, (8, ()))))), ())) fun y =>
    bif y.1.1 then some (fneg .f64 (fmul .f64 y.1.2.1 y.1.2.2.1)) else some (fmul .f64 y.1.2.1 y.1.2.2.1)
def sineOf (f : Nat) : Option Nat :=
  bif fge .f64 f 4602678819172646912 then
    bif fgt .f64 (fsub .f64 f 4602678819172646912) 4598175219545276416 then sineEnd (fge .f64 f 4602678819172646912) (fsub .f64 4602678819172646912 (fsub .f64 f 4602678819172646912))
    else sineEnd (fge .f64 f 4602678819172646912) (fsub .f64 f 4602678819172646912)
  else
    bif fgt .f64 f 4598175219545276416 then sineEnd (fge .f64 f 4602678819172646912) (fsub .f64 4602678819172646912 f)
    else sineEnd (fge .f64 f 4602678819172646912) f

theorem fneg_fin {x : Nat} (h : fin .f64 x) : fin .f64 (fneg .f64 x) ∧ V .f64 (fneg .f64 x) = V .f64 x := by
  have h1 : fneg .f64 x = Op.negFloat .f64 x := canon_num (by rw [isNan_neg]; exact fin_nan h)
  rw [h1]
  have h2 : Op.negFloat .f64 x % FloatKind.f64.format.signWeight = x % FloatKind.f64.format.signWeight := neg_mod _ x
  unfold fin V
  rw [h2]
  exact ⟨h, rfl⟩

theorem sineEnd_ret {f : Nat} (turned : Bool) (hf : bd 1077 f) : Ret (sineEnd turned f) (bd 1168) := by
  have z := hf.mul 1080 whole64 (by omega) (by omega) (by omega)
  have u := z.mul 1086 z (by omega) (by omega) (by omega)
  obtain ⟨p', h1, h2⟩ := sine_loop turned (fmul .f64 f 4618760256179416344) _ u 8 fuel 4607182418800017408 (by omega) (by unfold fuel; omega) (one64.up _ (by omega))
  unfold sineEnd
  rw [show ((8 : Nat) : Int) = 8 from rfl] at h1
  rw [h1, opt_bind_some]
  have r := z.mul 1168 h2 (by omega) (by omega) (by omega)
  refine Ret.cond (fun _ => Ret.pure ?_) fun _ => Ret.pure r
  obtain ⟨n1, n2⟩ := fneg_fin r.fin
  exact ⟨n1, by rw [n2]; exact r.2⟩

theorem sineOf_ret {f : Nat} (hf : bd 1075 f) : Ret (sineOf f) (bd 1168) := by
  have a := hf.sub 1076 half64 (by omega) (by omega) (by omega) (by omega)
  have b := half64.sub 1077 a (by omega) (by omega) (by omega) (by omega)
  have c := half64.sub 1077 hf (by omega) (by omega) (by omega) (by omega)
  unfold sineOf
  refine Ret.cond (fun _ => Ret.cond (fun _ => sineEnd_ret _ b) fun _ => sineEnd_ret _ (a.up _ (by omega))) fun _ => Ret.cond (fun _ => sineEnd_ret _ c) fun _ => sineEnd_ret _ (hf.up _ (by omega))

theorem narrow_fin {x : Nat} (h : bd 1168 x) : ∃ r, fconv .f64 .f32 x = some r := by
  refine narrow_ok ?_
  obtain ⟨m, a, hr, e⟩ := fin_read h.1
  rw [hr]
  have hL : FloatKind.f64.format.leastPlace = -1074 := rfl
  by_cases hm : m = 0
  · exact .inl hm
  · right
    rw [hL]
    have key : ∀ c, V .f64 x ≤ 2 ^ c → m.log2 + a ≤ c := fun c hV => by
      rw [← e] at hV
      have h1 : 2 ^ m.log2 * 2 ^ a ≤ 2 ^ c := Nat.le_trans (Nat.mul_le_mul_right _ (Nat.log2_self_le hm)) hV
      rw [← Nat.pow_add] at h1
      exact (Nat.pow_le_pow_iff_right (by omega)).1 h1
    have := key 1168 h.2
    omega

theorem nan_conv : ∃ w, fconv .f64 .f32 t_math_NaN = some w := ⟨qnan .f32, by decide +kernel⟩
theorem zero_conv : ∃ w, fconv .f64 .f32 0 = some w := ⟨0, by decide +kernel⟩
theorem int_pow2 (n : Nat) : (2 : Int) ^ n = ((2 ^ n : Nat) : Int) := by rw [Int.natCast_pow]; rfl

theorem c_i_sine {y f t : Nat} (ht : g_archTrunc y = some t) (h1 : feq .f64 t 0 = true → y = f) (h2 : feq .f64 t 0 = false → fsub .f64 y t = f) : g_i_sine y = sineOf (bif flt .f64 f 0 then fadd .f64 f 4607182418800017408 else f) := by
  have hp : g_i_placesOf y = some (bif flt .f64 f 0 then fadd .f64 f 4607182418800017408 else f) := by
    unfold g_i_placesOf g_math_Trunc
    rw [ht]
    simp only [opt_bind_some]
    cases he : feq .f64 t 0
    · rw [h2 he]; cases flt .f64 f 0 <;> rfl
    · have := h1 he
      subst this
      cases flt .f64 y 0 <;> rfl
  unfold g_i_sine
  rw [hp]
  rfl

theorem c_s_sine {y f : Nat} {n : Int} (hn : floatToIntVal .f64 y .i64 = some n) (h1 : fsub .f64 y (fofInt .f64 n) = f) (ha : feq .f64 (fsub .f64 y y) 0 = true) (hb : fge .f64 y 4841369599423283200 = false) (hc : fle .f64 y 14064741636278059008 = false) :
    g_s_l01SineWide y = sineOf (bif flt .f64 f 0 then fadd .f64 f 4607182418800017408 else f) := by
  unfold g_s_l01SineWide
  rw [ha, hb, hc, hn, se_L_SineWide_1]
  simp only [bnot_t, cond_f, opt_bind_some, h1]
  cases flt .f64 f 0 <;> rfl

/-- Both sines are the same, and can be narrowed. -/
theorem sine_same {y : Nat} (hy : y < 2 ^ 64) : ∃ r w, g_s_l01SineWide y = some r ∧ g_i_wideSine y = some r ∧ fconv .f64 .f32 r = some w := by
  cases ha : feq .f64 (fsub .f64 y y) 0
  · obtain ⟨w, hw⟩ := nan_conv
    refine ⟨t_math_NaN, w, ?_, ?_, hw⟩
    · unfold g_s_l01SineWide; rw [ha]; rfl
    · unfold g_i_wideSine; rw [ha]; rfl
  · have hf := fin_of_sub ha
    obtain ⟨g1, g2, g3, g4⟩ := big64
    have habs : t_mathabs y = y % 2 ^ 63 := by
      unfold t_mathabs abs64
      refine canon_num ?_
      rw [isNan_mod .f64 (y % 2 ^ 63) y (by show y % 2 ^ 63 % 2 ^ 63 = y % 2 ^ 63; rw [Nat.mod_mod])]
      exact fin_nan hf
    have hfa : fin .f64 (y % 2 ^ 63) ∧ V .f64 (y % 2 ^ 63) = V .f64 y ∧ sg .f64 (y % 2 ^ 63) = false := by
      have hsw : FloatKind.f64.format.signWeight = 2 ^ 63 := rfl
      unfold fin V sg at *
      rw [hsw, Nat.mod_mod]
      rw [hsw] at hf
      refine ⟨hf, rfl, ?_⟩
      rw [Nat.div_eq_of_lt (Nat.mod_lt _ (by decide))]
      rfl
    have hZa : Z .f64 (y % 2 ^ 63) = V .f64 y := by unfold Z; rw [hfa.2.2, hfa.2.1]; rfl
    have e1 : fge .f64 (t_mathabs y) 4841369599423283200 = decide ((2 : Int) ^ 1126 ≤ V .f64 y) := by
      rw [habs, fge_fin hfa.1 g1, g2, hZa]
    have e2 : fge .f64 y 4841369599423283200 = decide ((2 : Int) ^ 1126 ≤ Z .f64 y) := by rw [fge_fin hf g1, g2]
    have e3 : fle .f64 y 14064741636278059008 = decide (Z .f64 y ≤ -(2 : Int) ^ 1126) := by rw [fle_fin hf g3, g4]
    have hzv : Z .f64 y = V .f64 y ∨ Z .f64 y = -(V .f64 y : Int) := by unfold Z; split <;> simp
    have key : ∀ c : Nat, (2 : Int) ^ c = ((2 ^ c : Nat) : Int) ∧ (0 : Int) < 2 ^ c ∧ ∀ d, c = d + 52 → (2 : Nat) ^ c = 2 ^ d * 2 ^ 52 :=
      fun c => ⟨int_pow2 c, Int.pow_pos (by decide), fun d hd => by rw [hd]; exact Nat.pow_add ..⟩
    obtain ⟨k1, k2, k3⟩ := key 1126
    have k4 := k3 1074 rfl
    clear key k3 g2 g4
    have hlast : ∀ K : Nat, K = 1074 → (2 : Nat) ^ 1126 = 2 ^ K * 2 ^ 52 := fun K hK => by rw [hK]; exact k4
    clear k4
    generalize (2 : Nat) ^ 1126 = cn at *
    generalize (2 : Int) ^ 1126 = c at *
    by_cases hbig : c ≤ (V .f64 y : Int)
    · obtain ⟨w, hw⟩ := zero_conv
      refine ⟨0, w, ?_, ?_, hw⟩
      · unfold g_s_l01SineWide
        rw [ha, e2, e3]
        rcases hzv with h | h
        · rw [decide_eq_true (by omega)]; rfl
        · rw [decide_eq_false (by omega), decide_eq_true (by omega)]; rfl
      · unfold g_i_wideSine
        rw [ha, e1, decide_eq_true hbig]; rfl
    · have hlt : V .f64 y < cn := by omega
      obtain ⟨f, n, t, f1, f2, f3, f4, f5, f6, f7⟩ := frac_same (K := 1074) rfl hy hf (by rw [← hlast 1074 rfl]; exact hlt)
      have hfb : bd 1074 f := ⟨f1, f2⟩
      clear f2 f1 hlast
      have hb : fge .f64 y 4841369599423283200 = false := by rw [e2]; exact decide_eq_false (by omega)
      have hc : fle .f64 y 14064741636278059008 = false := by rw [e3]; exact decide_eq_false (by omega)
      have hfin : bd 1075 (bif flt .f64 f 0 then fadd .f64 f 4607182418800017408 else f) := by
        cases flt .f64 f 0
        · exact hfb.up _ (by omega)
        · exact hfb.add _ one64 (by omega) (by omega) (by omega) (by omega)
      obtain ⟨r, r1, r2⟩ := sineOf_ret hfin
      obtain ⟨w, hw⟩ := narrow_fin r2
      refine ⟨r, w, ?_, ?_, hw⟩
      · rw [c_s_sine f3 f4 ha hb hc]; exact r1
      · unfold g_i_wideSine
        rw [ha, e1, decide_eq_false hbig, c_i_sine f5 f6 f7, r1]; rfl

theorem sine32 {x : Nat} (hx : x < 2 ^ 32) : ∃ w, g_s_l01Sine x = some w ∧ g_i_SineTurns x = some w := by
  obtain ⟨r, w, h1, h2, h3⟩ := sine_same (fwide_okF hx).1
  refine ⟨w, ?_, ?_⟩
  · unfold g_s_l01Sine g_s_l01Narrow
    rw [h1]
    simp only [opt_bind_some, h3]
  · unfold g_i_SineTurns
    rw [h2]
    simp only [opt_bind_some, h3]

/-! swings -/
end Go.Fw
