/- The law of narrowing. No condition. -/
import Derived.Test.YthmpjkfccbchfaaFEq1
import Derived.Test.YthmpjkfccbchfaaFwE
set_option linter.unusedVariables false
set_option linter.unusedSimpArgs false
namespace Go.Fw

theorem c_s_SameNumber {x y : Nat} (hx : okF .f32 x) (hy : okF .f32 y) : g_s_SameNumber x y = some (same x y) := by
  unfold g_s_SameNumber
  rw [c_s_l01Same hx hy]; rfl

theorem l01From_word {n : Nat} (hn : n < 2 ^ 32) (h : isNan .f32 n = false) : t_s_l01From (n : Int) = n := by
  unfold t_s_l01From
  have : iconv .u32 (n : Int) = n := by
    show IntKind.u32.wrap _ = _
    rw [wrap32 (by omega) (by omega)]
  rw [this]
  exact word_ok hn h

/-- The next greater number stands one place further. -/
theorem c_s_NextUp {x : Nat} (hx : okF .f32 x) (hn : isNan .f32 x = false) : ∃ y, g_s_NextUp x = some y ∧ okF .f32 y ∧ isNan .f32 y = false ∧ Kw .f32 y = if Kw .f32 x = 2139095040 then 2139095040 else Kw .f32 x + 1 := by
  have hl := hx.lt32
  have hk := key32 hl
  have hr := (nan32 hl).1 hn
  have z0 : isNan .f32 0 = false := by decide +kernel
  have kz : Kw .f32 0 = 0 := by decide +kernel
  have mk : ∀ y : Nat, y < 2 ^ 32 → isNan .f32 y = false → okF .f32 y := fun y h1 h2 => .of_num h1 h2
  unfold g_s_NextUp g_s_l01Next
  rw [c_s_l01Bits hx, feq_self, hn, feq_key hn z0, kz, fgt_key hn z0, kz]
  simp only [bnot_f, bnot_t, cond_f, opt_bind_some, Bool.not_false]
  by_cases h1 : Kw .f32 x = 2139095040
  · rw [if_pos h1]
    have hx1 : (x : Int) = 2139095040 := by split at hk <;> omega
    rw [hx1, ieq_self, cond_t, opt_bind_some]
    exact ⟨x, rfl, hx, hn, h1⟩
  have hx1 : ieq (x : Int) 2139095040 = false := by
    unfold ieq
    rw [beq_eq_false_iff_ne]
    split at hk <;> omega
  rw [if_neg h1, hx1, cond_f]
  by_cases h2 : Kw .f32 x = 0
  · rw [decide_eq_true h2, cond_t, opt_bind_some]
    have e1 : t_s_l01From 1 = 1 := by decide +kernel
    rw [e1]
    exact ⟨1, rfl, mk 1 (by decide) (by decide +kernel), by decide +kernel, by rw [h2]; decide +kernel⟩
  rw [decide_eq_false h2, cond_f]
  by_cases h3 : 0 < Kw .f32 x
  · rw [decide_eq_true h3, cond_t, opt_bind_some]
    split at hk
    · omega
    · have e : iadd .i64 (x : Int) 1 = ((x + 1 : Nat) : Int) := iadd_nat (by omega)
      have hl' : x + 1 < 2 ^ 32 := by omega
      have hk' : Kw .f32 (x + 1) = Kw .f32 x + 1 := by rw [key32 hl', hk, if_neg (by omega)]; omega
      have hn' : isNan .f32 (x + 1) = false := (nan32 hl').2 (by omega)
      rw [e, l01From_word hl' hn']
      exact ⟨_, rfl, mk _ hl' hn', hn', hk'⟩
  · rw [decide_eq_false h3, cond_f, opt_bind_some]
    split at hk
    · have e : isub .i64 (x : Int) 1 = ((x - 1 : Nat) : Int) := by rw [isub_ok (by omega) (by omega)]; omega
      have hl' : x - 1 < 2 ^ 32 := by omega
      have hk' : Kw .f32 (x - 1) = Kw .f32 x + 1 := by rw [key32 hl', hk, if_pos (by omega)]; omega
      have hn' : isNan .f32 (x - 1) = false := (nan32 hl').2 (by omega)
      rw [e, l01From_word hl' hn']
      exact ⟨_, rfl, mk _ hl' hn', hn', hk'⟩
    · omega

/-- A number of double precision between two neighbours: where it is narrowed to. -/
theorem narrow_key {s : Bool} {w N q X P K : Nat} (hK : K = 925) (hP : P + 2 = q + K) (hw : fin .f64 w) (hz : Z .f64 w = sgn s (X * 2 ^ P)) (hN : N < 2 ^ 24) (hq : q = 0 ∨ 2 ^ 23 ≤ N) (hi : q * 2 ^ 23 + N + 1 < 2139095040) (h0 : X ≠ 0) (h1 : 4 * N ≤ X) (h2 : X < 4 * N + 4) :
    ∃ o, g_i_NarrowNumber w = some o ∧ isNan .f32 o = false ∧ Kw .f32 o = sgn s (if X < 4 * N + 2 then q * 2 ^ 23 + N else if 4 * N + 2 < X then q * 2 ^ 23 + N + 1 else q * 2 ^ 23 + N + N % 2) := by
  have hp := Nat.two_pow_pos P
  have hne : X * 2 ^ P ≠ 0 := Nat.mul_ne_zero h0 (by omega)
  obtain ⟨hs, hV⟩ := sg_of_Z hz hne
  have e4 : 2 ^ (q + K) = 4 * 2 ^ P := by rw [← hP, Nat.pow_add]; omega
  have hI : FloatKind.f32.format.infRung = 2139095040 := rfl
  obtain ⟨c1, c2, c3⟩ := narrow_place (w := w) (N := N) (q := q) hK hw (by rw [hV]; exact hne) hN hq hi
    (by rw [e4, hV, ← Nat.mul_assoc]; exact Nat.mul_le_mul_right _ (by omega)) (by rw [e4, hV, ← Nat.mul_assoc]; exact Nat.mul_lt_mul_of_pos_right (by omega) hp)
  rw [e4, hV, hs] at c1 c2 c3
  have ex : 2 * (X * 2 ^ P) = (2 * X) * 2 ^ P := (Nat.mul_assoc ..).symm
  have en : (2 * N + 1) * (4 * 2 ^ P) = (8 * N + 4) * 2 ^ P := by rw [← Nat.mul_assoc]; congr 1; omega
  rw [ex, en] at c1 c2 c3
  have fin' : ∀ g : Nat, g < 2139095040 → fconv .f64 .f32 w = some (FloatKind.f32.format.word s g) → ∃ o, g_i_NarrowNumber w = some o ∧ isNan .f32 o = false ∧ Kw .f32 o = sgn s g := fun g hg h => by
    have hg' : g < FloatKind.f32.format.infRung := by rw [hI]; exact hg
    refine ⟨_, by unfold g_i_NarrowNumber; rw [h]; rfl, fin_nan (word_fin hg').1, key_word hg'⟩
  by_cases a1 : X < 4 * N + 2
  · rw [if_pos a1]
    exact fin' _ (Nat.lt_of_succ_lt hi) (c1 (Nat.mul_lt_mul_of_pos_right (by omega) hp))
  rw [if_neg a1]
  by_cases a2 : 4 * N + 2 < X
  · rw [if_pos a2]
    exact fin' _ hi (c2 (Nat.mul_lt_mul_of_pos_right (by omega) hp))
  rw [if_neg a2]
  exact fin' _ (by omega) (c3 (by rw [show 2 * X = 8 * N + 4 by omega]))

theorem v_FnNarrowed (code more : List Int) (hok : okPs [.ro false (.slice (.int .u8)), .ro false (.slice (.int .u8))] (code, more, ())) : g_w_FnNarrowed code more = some true := by
  have hc : ∀ x ∈ code, 0 ≤ x ∧ x ≤ 255 := fun x hx => hok.1.2 x hx
  unfold g_w_FnNarrowed
  cases hL : t_w_b10Long code more
  rotate_left
  · rfl
  obtain ⟨hcl, hml⟩ := b10Long_F hL
  obtain ⟨x, e1, hx⟩ := rt_B10Number hc hcl
  have lx := hx.lt32
  have hnar : g_i_NarrowNumber (fwide x) = some x := by unfold g_i_NarrowNumber; rw [narrow_wide hx]; rfl
  rw [cond_f, e1, opt_bind_some, hnar, opt_bind_some, c_s_SameNumber hx hx, same_iff.2 rfl]
  simp only [opt_bind_some, bnot_t, cond_f]
  have hfin : ∀ z, t_s_IsFinite z = true ↔ fin .f32 z := fun z => finite_iff .f32 z
  cases hn : isNan .f32 x
  rotate_left
  · have hu : g_s_NextUp x = some x := by
      unfold g_s_NextUp g_s_l01Next
      rw [c_s_l01Bits hx, feq_self, hn]; rfl
    have hfx : t_s_IsFinite x = false := by
      cases h : t_s_IsFinite x
      · rfl
      · have := fin_nan ((hfin x).1 h)
        rw [hn] at this; cases this
    rw [hu, opt_bind_some, hfx]; rfl
  obtain ⟨y, u1, u2, u3, u4⟩ := c_s_NextUp hx hn
  have ly := u2.lt32
  rw [u1, opt_bind_some]
  cases hfx : t_s_IsFinite x
  · rfl
  cases hfy : t_s_IsFinite y
  · rfl
  have fx := (hfin x).1 hfx
  have fy := (hfin y).1 hfy
  have kx := (fin32 lx).1 fx
  have ky := (fin32 ly).1 fy
  rw [if_neg (by omega)] at u4
  -- the two neighbours by their magnitudes
  obtain ⟨s, r, hr, hxy⟩ : ∃ s r, r + 1 < 2139095040 ∧ ((s = false ∧ Kw .f32 x = sgn s r ∧ Kw .f32 y = sgn s (r + 1)) ∨ (s = true ∧ Kw .f32 x = sgn s (r + 1) ∧ Kw .f32 y = sgn s r)) := by
    by_cases h : 0 ≤ Kw .f32 x
    · exact ⟨false, (Kw .f32 x).toNat, by omega, .inl ⟨rfl, by unfold sgn; simp; omega, by unfold sgn; simp; omega⟩⟩
    · exact ⟨true, (-(Kw .f32 y)).toNat, by omega, .inr ⟨rfl, by unfold sgn; simp; omega, by unfold sgn; simp; omega⟩⟩
  obtain ⟨N, q, hrN, hN, hq, hq2, m1, m2⟩ := rung32 (show r < 2139095040 by omega)
  obtain ⟨K, hK⟩ : ∃ K : Nat, K = 925 := ⟨_, rfl⟩
  obtain ⟨P, hP⟩ : ∃ P : Nat, P + 2 = q + K := ⟨q + K - 2, by omega⟩
  have hP1 : 900 ≤ P ∧ P ≤ 1900 := by omega
  have hi : q * 2 ^ 23 + N + 1 < 2139095040 := by omega
  have par : r % 2 = N % 2 := by omega
  obtain ⟨wx, zx⟩ := wide_Z hK lx fx
  obtain ⟨wy, zy⟩ := wide_Z hK ly fy
  -- magnitudes of the widened numbers
  have wide : ∀ (A : Nat) (z : Nat), Z .f32 z = sgn s (A * 2 ^ q) → Z .f64 (fwide z) = Z .f32 z * ((2 ^ K : Nat) : Int) → Z .f64 (fwide z) = sgn s (A * 2 ^ (P + 1 + 1)) := fun A z h1 h2 => by
    rw [h2, h1, show P + 1 + 1 = q + K by omega, Nat.pow_add, ← Nat.mul_assoc]
    unfold sgn
    cases s <;> simp [Int.natCast_mul, Int.neg_mul]
  have core : ∀ (A C : Nat), A + C = 2 * N + 1 → (A = N ∨ A = N + 1) → Z .f64 (fwide x) = sgn s (A * 2 ^ (P + 1 + 1)) → Z .f64 (fwide y) = sgn s (C * 2 ^ (P + 1 + 1)) →
      (∃ o, g_i_NarrowNumber (fdiv .f64 (fadd .f64 (fwide x) (fwide y)) 4611686018427387904) = some o ∧ isNan .f32 o = false ∧ Kw .f32 o = sgn s (q * 2 ^ 23 + N + N % 2)) ∧
      (∃ o, g_i_NarrowNumber (fdiv .f64 (fadd .f64 (fwide x) (fdiv .f64 (fadd .f64 (fwide x) (fwide y)) 4611686018427387904)) 4611686018427387904) = some o ∧ isNan .f32 o = false ∧ Kw .f32 o = sgn s (q * 2 ^ 23 + A)) ∧
      (∃ o, g_i_NarrowNumber (fdiv .f64 (fadd .f64 (fwide y) (fdiv .f64 (fadd .f64 (fwide x) (fwide y)) 4611686018427387904)) 4611686018427387904) = some o ∧ isNan .f32 o = false ∧ Kw .f32 o = sgn s (q * 2 ^ 23 + C)) := by
    intro A C hAC hA zx zy
    obtain ⟨f1, z1⟩ := mean_exact wx wy zx zy (by omega) (by omega) (by omega)
    have up : ∀ A, A * 2 ^ (P + 1 + 1) = (2 * A) * 2 ^ (P + 1) := fun A => by rw [Nat.pow_succ 2 (P + 1)]; simp only [Nat.mul_assoc, Nat.mul_comm, Nat.mul_left_comm]
    have up1 : ∀ A, A * 2 ^ (P + 1) = (2 * A) * 2 ^ P := fun A => by rw [Nat.pow_succ 2 P]; simp only [Nat.mul_assoc, Nat.mul_comm, Nat.mul_left_comm]
    obtain ⟨f2, z2⟩ := mean_exact (A := 2 * A) (C := A + C) (P := P) wx f1 (by rw [← up]; exact zx) z1 (by omega) (by omega) (by omega)
    obtain ⟨f3, z3⟩ := mean_exact (A := 2 * C) (C := A + C) (P := P) wy f1 (by rw [← up]; exact zy) z1 (by omega) (by omega) (by omega)
    rw [up1] at z1
    obtain ⟨o1, a1, b1, c1⟩ := narrow_key hK hP f1 z1 hN hq hi (by omega) (by omega) (by omega)
    obtain ⟨o2, a2, b2, c2⟩ := narrow_key hK hP f2 z2 hN hq hi (by omega) (by omega) (by omega)
    obtain ⟨o3, a3, b3, c3⟩ := narrow_key hK hP f3 z3 hN hq hi (by omega) (by omega) (by omega)
    refine ⟨⟨o1, a1, b1, ?_⟩, ⟨o2, a2, b2, ?_⟩, ⟨o3, a3, b3, ?_⟩⟩
    · rw [c1, if_neg (by omega), if_neg (by omega)]
    · rw [c2]
      rcases hA with hA | hA
      · rw [if_pos (by omega), hA]
      · rw [if_neg (by omega), if_pos (by omega), hA, Nat.add_assoc]
    · rw [c3]
      rcases hA with hA | hA
      · rw [if_neg (by omega), if_pos (by omega), show C = N + 1 by omega, Nat.add_assoc]
      · rw [if_pos (by omega), show C = N by omega]
  have hbits : g_s_BitsOf x = some (x : Int) := by unfold g_s_BitsOf; rw [c_s_l01Bits hx]; rfl
  have hodd : irem .i64 (x : Int) 2 = ((x % 2 : Nat) : Int) := by rw [irem_nn (by omega)]; omega
  have hkx := key32 lx
  have fin1 : ∀ o z : Nat, isNan .f32 o = false → isNan .f32 z = false → Kw .f32 o = Kw .f32 z → feq .f32 o z = true := fun o z h1 h2 h3 => by rw [feq_key h1 h2, decide_eq_true h3]
  rw [hbits]
  simp only [bnot_t, cond_f, opt_bind_some]
  rw [hodd]
  rcases hxy with ⟨hs, k1, k2⟩ | ⟨hs, k1, k2⟩
  · have zx32 := Z_of_key k1
    have zy32 := Z_of_key k2
    rw [m1] at zx32
    rw [m2] at zy32
    obtain ⟨⟨o1, a1, b1, c1⟩, ⟨o2, a2, b2, c2⟩, ⟨o3, a3, b3, c3⟩⟩ := core N (N + 1) (by omega) (.inl rfl) (wide N x zx32 zx) (wide (N + 1) y zy32 zy)
    have ex : x % 2 = N % 2 := by
      rw [hs] at k1
      unfold sgn at k1
      simp at k1
      split at hkx <;> omega
    have q2 : feq .f32 o2 x = true := fin1 _ _ b2 hn (by rw [c2, k1, hrN])
    have q3 : feq .f32 o3 y = true := fin1 _ _ b3 u3 (by rw [c3, k2, hrN, Nat.add_assoc])
    rw [a1, a2, a3]
    simp only [opt_bind_some]
    rcases Nat.mod_two_eq_zero_or_one N with h | h
    · rw [show ieq ((x % 2 : Nat) : Int) 1 = false by rw [ex, h]; rfl, cond_f, fin1 o1 x b1 hn (by rw [c1, k1, hrN, h, Nat.add_zero]), q2, q3]; rfl
    · rw [show ieq ((x % 2 : Nat) : Int) 1 = true by rw [ex, h]; rfl, cond_t, fin1 o1 y b1 u3 (by rw [c1, k2, hrN, h]), q2, q3]; rfl
  · have zx32 := Z_of_key k1
    have zy32 := Z_of_key k2
    rw [m2] at zx32
    rw [m1] at zy32
    obtain ⟨⟨o1, a1, b1, c1⟩, ⟨o2, a2, b2, c2⟩, ⟨o3, a3, b3, c3⟩⟩ := core (N + 1) N (by omega) (.inr rfl) (wide (N + 1) x zx32 zx) (wide N y zy32 zy)
    have ex : x % 2 = (N + 1) % 2 := by
      rw [hs] at k1
      unfold sgn at k1
      simp at k1
      split at hkx <;> omega
    have q2 : feq .f32 o2 x = true := fin1 _ _ b2 hn (by rw [c2, k1, hrN, Nat.add_assoc])
    have q3 : feq .f32 o3 y = true := fin1 _ _ b3 u3 (by rw [c3, k2, hrN])
    rw [a1, a2, a3]
    simp only [opt_bind_some]
    rcases Nat.mod_two_eq_zero_or_one N with h | h
    · rw [show ieq ((x % 2 : Nat) : Int) 1 = true by rw [ex, Nat.add_mod, h]; rfl, cond_t, fin1 o1 y b1 u3 (by rw [c1, k2, hrN, h, Nat.add_zero]), q2, q3]; rfl
    · rw [show ieq ((x % 2 : Nat) : Int) 1 = false by rw [ex, Nat.add_mod, h]; rfl, cond_f, fin1 o1 x b1 hn (by rw [c1, k1, hrN, h]), q2, q3]; rfl
end Go.Fw
