/- Laws on numbers: bits, neighbours. No condition. -/
import Derived.Test.YthmpjkfccbchfaaFPure
import Derived.Test.YthmpjkfccbchfaaSDraw1
import Derived.Test.YthmpjkfccbchfaaFwE
set_option linter.unusedVariables false
set_option linter.unusedSimpArgs false
namespace Go.Fw

theorem rt_B10Number {code : List Int} (h : ∀ x ∈ code, 0 ≤ x ∧ x ≤ 255) (hl : code.length ≤ 4294967296) : Ret (g_s_B10Number code) (okF .f32) := by
  unfold g_s_B10Number
  refine Ret.bind ((rt_one 2 (okS_from h hl) (by omega) (by omega)).mono fun y hy => Ret.cond (fun _ => ?_) fun _ => ?_)
  · exact Ret.bind ((rt_pick 65536 hy (by omega) (by omega)).mono fun z hz => Ret.bind ((rt_pick 65536 hz.2 (by omega) (by omega)).mono fun u hu => Ret.pure (l01From_okF _)))
  · exact Ret.bind ((rt_DrawFloat hy (by omega)).mono fun z hz => Ret.pure hz.1)

theorem b10Long_F {code more : List Int} (h : t_w_b10Long code more = false) : code.length ≤ 4294967296 ∧ more.length ≤ 4294967296 := by
  unfold t_w_b10Long at h
  cases h1 : ilt 1048576 (code.length : Int)
  · rw [h1, cond_f] at h
    (simp only [ilt_T, ilt_F, ile_T, ile_F, ieq_T, ieq_F, bnot_T, bnot_F, ble_T, ble_F, nz_T, nz_F, nonneg_T, nonneg_F] at h1)
    (simp only [ilt_T, ilt_F, ile_T, ile_F, ieq_T, ieq_F, bnot_T, bnot_F, ble_T, ble_F, nz_T, nz_F, nonneg_T, nonneg_F] at h)
    omega
  · rw [h1] at h; cases h

theorem c_i_BitsOf {x : Nat} (hx : okF .f32 x) : g_i_BitsOf x = some (x : Int) := by
  unfold g_i_BitsOf g_float32bits
  rw [feq_self]
  have := hx.lt32
  cases hn : isNan .f32 x
  · simp only [bnot_t, bnot_f, cond_f, opt_bind_some]; rw [iconv_ok (by omega) (by omega)]
  · rw [hx.nan hn]; rfl

/-- A word that a not-a-number has not. -/
theorem word_ok {n : Nat} (hn : n < 2 ^ 32) (h : isNan .f32 n = false) : t_float32frombits (n : Int) = n := by
  unfold t_float32frombits
  rw [Int.toNat_natCast]
  exact canon_num h

theorem c_i_FromBits {x : Nat} (hx : okF .f32 x) : t_i_FromBits (x : Int) = (x, (true, ())) := by
  have := hx.lt32
  unfold t_i_FromBits
  rw [ilt_f (by omega), ilt_f (by omega), cond_f, cond_f]
  have : iconv .u32 (x : Int) = x := by
    show IntKind.u32.wrap _ = _
    rw [IntKind.wrap_u32]; omega
  rw [this]
  unfold t_float32frombits
  rw [Int.toNat_natCast, hx.canon]

theorem wrap32 {n : Int} (h : 0 ≤ n) (h' : n < 2 ^ 32) : IntKind.u32.wrap n = n := by
  rw [IntKind.wrap_u32]; omega

/-- The next greater number stands one place further. -/
theorem c_i_NextUp {x : Nat} (hx : okF .f32 x) (hn : isNan .f32 x = false) : ∃ y, g_i_NextUp x = some y ∧ okF .f32 y ∧ isNan .f32 y = false ∧ Kw .f32 y = if Kw .f32 x = 2139095040 then 2139095040 else Kw .f32 x + 1 := by
  have hl := hx.lt32
  have hk := key32 hl
  have hr := (nan32 hl).1 hn
  have m0 : isNan .f32 2139095039 = false := by decide +kernel
  have km : Kw .f32 2139095039 = 2139095039 := by decide +kernel
  have z0 : isNan .f32 0 = false := by decide +kernel
  have kz : Kw .f32 0 = 0 := by decide +kernel
  have mk : ∀ y : Nat, y < 2 ^ 32 → isNan .f32 y = false → okF .f32 y := fun y h1 h2 => .of_num h1 h2
  unfold g_i_NextUp g_float32bits
  rw [feq_self, hn, fgt_key hn m0, km, feq_key hn z0, kz, fgt_key hn z0, kz]
  simp only [bnot_f, bnot_t, cond_f, opt_bind_some, Bool.not_false]
  by_cases h1 : Kw .f32 x = 2139095040
  · rw [if_pos h1, h1]
    exact ⟨x, rfl, hx, hn, h1⟩
  rw [if_neg h1, decide_eq_false (show ¬ 2139095039 < Kw .f32 x by omega), cond_f]
  by_cases h2 : Kw .f32 x = 0
  · rw [decide_eq_true h2, cond_t]
    exact ⟨1, rfl, mk 1 (by decide) (by decide +kernel), by decide +kernel, by rw [h2]; decide +kernel⟩
  rw [decide_eq_false h2, cond_f]
  by_cases h3 : 0 < Kw .f32 x
  · rw [decide_eq_true h3, cond_t]
    split at hk
    · omega
    · have e : iadd .u32 (x : Int) 1 = ((x + 1 : Nat) : Int) := by
        show IntKind.u32.wrap _ = _
        rw [wrap32 (by omega) (by omega)]; omega
      have hl' : x + 1 < 2 ^ 32 := by omega
      have hk' : Kw .f32 (x + 1) = Kw .f32 x + 1 := by rw [key32 hl', hk, if_neg (by omega)]; omega
      have hn' : isNan .f32 (x + 1) = false := (nan32 hl').2 (by omega)
      rw [e, word_ok hl' hn']
      exact ⟨_, rfl, mk _ hl' hn', hn', hk'⟩
  · rw [decide_eq_false h3, cond_f]
    split at hk
    · have e : isub .u32 (x : Int) 1 = ((x - 1 : Nat) : Int) := by
        show IntKind.u32.wrap _ = _
        rw [wrap32 (by omega) (by omega)]; omega
      have hl' : x - 1 < 2 ^ 32 := by omega
      have hk' : Kw .f32 (x - 1) = Kw .f32 x + 1 := by rw [key32 hl', hk, if_pos (by omega)]; omega
      have hn' : isNan .f32 (x - 1) = false := (nan32 hl').2 (by omega)
      rw [e, word_ok hl' hn']
      exact ⟨_, rfl, mk _ hl' hn', hn', hk'⟩
    · omega

theorem c_i_NextDown {x : Nat} (hx : okF .f32 x) (hn : isNan .f32 x = false) : ∃ y, g_i_NextDown x = some y ∧ okF .f32 y ∧ isNan .f32 y = false ∧ Kw .f32 y = if Kw .f32 x = -2139095040 then -2139095040 else Kw .f32 x - 1 := by
  obtain ⟨a1, a2, a3⟩ := neg32 hx hn
  obtain ⟨y, b1, b2, b3, b4⟩ := c_i_NextUp a3 a1
  obtain ⟨c1, c2, c3⟩ := neg32 b2 b3
  refine ⟨_, by unfold g_i_NextDown; rw [b1]; rfl, c3, c1, ?_⟩
  rw [c2, b4, a2]
  split <;> split <;> omega

theorem exp_iff {x : Nat} (hx : okF .f32 x) : ieq (iand .i64 (x : Int) 2139095040) 2139095040 = !t_i_IsFinite x := by
  have hl := hx.lt32
  have h1 : iand .i64 (x : Int) 2139095040 = ((x &&& 2139095040 : Nat) : Int) := iand64 x 2139095040 (by omega) (by decide)
  have e1 : x &&& 2139095040 = x % 2 ^ 31 / 2 ^ 23 * 2 ^ 23 := nat_midmask 31 23 x (by decide)
  have h2 : t_i_IsFinite x = true ↔ x % 2 ^ 31 < 2139095040 := finite_iff .f32 x
  rw [h1, e1]
  unfold ieq
  rw [Bool.eq_iff_iff]
  cases h3 : t_i_IsFinite x
  · rw [h3] at h2
    simp at h2 ⊢
    omega
  · rw [h3] at h2
    simp at h2 ⊢
    omega

theorem v_FnBits (code more : List Int) (hok : okPs [.ro false (.slice (.int .u8)), .ro false (.slice (.int .u8))] (code, more, ())) : g_w_FnBits code more = some true := by
  have hc : ∀ x ∈ code, 0 ≤ x ∧ x ≤ 255 := fun x hx => hok.1.2 x hx
  have hm : ∀ x ∈ more, 0 ≤ x ∧ x ≤ 255 := fun x hx => hok.2.1.2 x hx
  unfold g_w_FnBits
  cases hL : t_w_b10Long code more
  rotate_left
  · rfl
  obtain ⟨hcl, hml⟩ := b10Long_F hL
  obtain ⟨x, e1, hx⟩ := rt_B10Number hc hcl
  obtain ⟨y, e2, hy⟩ := rt_B10Number hm hml
  have lx := hx.lt32
  rw [cond_f, e1, opt_bind_some, e2, opt_bind_some, c_i_BitsOf hx, opt_bind_some, c_i_FromBits hx]
  simp only [bnot_t, cond_f]
  rw [ilt_f (by omega), ilt_f (by omega), cond_f, cond_f, c_i_SameNumber hx hx, c_i_SameNumber hx hy, c_i_BitsOf hy]
  simp only [opt_bind_some]
  have hs : same x x = true := same_iff.2 rfl
  have hq : (same x y == ieq (x : Int) (y : Int)) = true := by
    rw [beq_iff_eq, Bool.eq_iff_iff, same_iff]
    unfold ieq
    simp; omega
  have hnq : ((!(feq .f32 x x)) == ieq (x : Int) 2143289344) = true := by
    rw [feq_self, Bool.not_not, beq_iff_eq, Bool.eq_iff_iff]
    unfold ieq
    rw [beq_iff_eq]
    constructor
    · intro h; rw [hx.nan h]; rfl
    · intro h
      have : x = 2143289344 := by omega
      subst this; decide +kernel
  rw [hs, hq, hnq, exp_iff hx]
  simp only [bnot_t, cond_f, Bool.not_not, beqB_self]
  have hfin : t_i_IsFinite x = true ↔ fin .f32 x := finite_iff .f32 x
  have z0 : isNan .f32 0 = false := by decide +kernel
  have kz : Kw .f32 0 = 0 := by decide +kernel
  cases hn : isNan .f32 x
  rotate_left
  · -- no number
    have hq : x = qnan .f32 := hx.nan hn
    have hu : g_i_NextUp x = some x := by
      unfold g_i_NextUp; rw [feq_self, hn]; rfl
    have hd : ∃ z, g_i_NextDown x = some z ∧ isNan .f32 z = true := by
      refine ⟨qnan .f32, ?_, isNan_qnan _⟩
      rw [hq]
      unfold g_i_NextDown g_i_NextUp
      have e1 : fneg .f32 (qnan .f32) = qnan .f32 := by decide +kernel
      rw [e1, feq_self, isNan_qnan]
      simp only [Bool.not_true, bnot_f, cond_t, opt_bind_some, e1]
    obtain ⟨z, hz, hzn⟩ := hd
    rw [hu, hz]
    simp only [opt_bind_some]
    rw [feq_self, feq_self, hn, hzn]
    rfl
  obtain ⟨u, u1, u2, u3, u4⟩ := c_i_NextUp hx hn
  obtain ⟨d, d1, d2, d3, d4⟩ := c_i_NextDown hx hn
  have hr := (nan32 lx).1 hn
  rw [u1, d1]
  simp only [opt_bind_some]
  rw [feq_self, hn]
  simp only [Bool.not_false, bnot_t, cond_f]
  by_cases hf : fin .f32 x
  rotate_left
  · have hfx : t_i_IsFinite x = false := by
      cases h : t_i_IsFinite x
      · rfl
      · exact absurd (hfin.1 h) hf
    rw [fin32 lx] at hf
    rw [hfx, fgt_key hn z0, flt_key hn z0, feq_key u3 hn, flt_key d3 hn, fgt_key u3 hn, feq_key d3 hn, kz]
    simp only [bnot_f, cond_t]
    by_cases hp : Kw .f32 x = 2139095040
    · rw [decide_eq_true (show 0 < Kw .f32 x by omega), decide_eq_true (show Kw .f32 u = Kw .f32 x by rw [u4, if_pos hp]; omega), decide_eq_true (show Kw .f32 d < Kw .f32 x by rw [d4, if_neg (by omega)]; omega)]
      rfl
    · have hm : Kw .f32 x = -2139095040 := by omega
      rw [decide_eq_false (show ¬ 0 < Kw .f32 x by omega), decide_eq_true (show Kw .f32 x < 0 by omega), decide_eq_true (show Kw .f32 x < Kw .f32 u by rw [u4, if_neg hp]; omega), decide_eq_true (show Kw .f32 d = Kw .f32 x by rw [d4, if_pos hm]; omega)]
      rfl
  rw [hfin.2 hf]
  rw [fin32 lx] at hf
  rw [if_neg (by omega)] at u4 d4
  rw [fgt_key u3 hn, flt_key d3 hn, decide_eq_true (show Kw .f32 x < Kw .f32 u by omega), decide_eq_true (show Kw .f32 d < Kw .f32 x by omega)]
  simp only [bnot_t, cond_f]
  obtain ⟨a, a1, a2, a3, a4⟩ := c_i_NextDown u2 u3
  obtain ⟨b, b1, b2, b3, b4⟩ := c_i_NextUp d2 d3
  rw [if_neg (by omega)] at a4 b4
  have fa : feq .f32 a x = true := by rw [feq_key a3 hn, decide_eq_true (by omega)]
  have fb : feq .f32 b x = true := by rw [feq_key b3 hn, decide_eq_true (by omega)]
  rw [a1, b1]
  simp only [opt_bind_some, fa, fb, cond_t]
  cases hny : isNan .f32 y
  · rw [fgt_key hny hn, flt_key hny u3, flt_key hny hn, fgt_key hny d3]
    by_cases h1 : Kw .f32 x < Kw .f32 y
    · rw [decide_eq_true h1, decide_eq_false (show ¬ Kw .f32 y < Kw .f32 u by omega), decide_eq_false (show ¬ Kw .f32 y < Kw .f32 x by omega)]; rfl
    · rw [decide_eq_false h1]
      by_cases h2 : Kw .f32 y < Kw .f32 x
      · rw [decide_eq_true h2, decide_eq_false (show ¬ Kw .f32 d < Kw .f32 y by omega)]; rfl
      · rw [decide_eq_false h2]; rfl
  · have g1 : fgt .f32 y x = false := by unfold fgt; rw [order_nan_left hny]; rfl
    have g2 : flt .f32 y x = false := flt_nan hny
    rw [g1, g2]; rfl
end Go.Fw
