/- FnSpringRests: springs come to rest at the told step. No condition. -/
import Derived.Test.YtalhiopcegnobaaSRest6
import Derived.Test.YtalhiopcegnobaaSEq10
set_option linter.unusedVariables false
set_option linter.unusedSimpArgs false
set_option maxRecDepth 20000
namespace Go.Fw
open Ieee

/-! ### words at rest -/
theorem zero_word {x : Nat} (hx : okF .f32 x) (h : R1 x = 0) : x = 0 ∨ x = 2147483648 := by
  have hsw : FloatKind.f32.format.signWeight = 2 ^ 31 := rfl
  have hR : R1 x = sgR (sg .f32 x) ((V .f32 x : Rat) * w2 FloatKind.f32.format.leastPlace) := R_V .f32 x
  have hw := w2_pos FloatKind.f32.format.leastPlace
  have hv : (V .f32 x : Rat) * w2 FloatKind.f32.format.leastPlace = 0 := by
    rw [hR] at h
    cases hs : sg .f32 x
    · rw [hs] at h; exact h
    · rw [hs] at h
      have h : -((V .f32 x : Rat) * w2 FloatKind.f32.format.leastPlace) = 0 := h
      grind
  have hV : V .f32 x = 0 := by
    rcases Nat.eq_zero_or_pos (V .f32 x) with h0 | h0
    · exact h0
    · exfalso
      have h1 : ((1 : Nat) : Rat) ≤ (V .f32 x : Rat) := Rat.natCast_le_natCast.2 h0
      have h2 := Rat.mul_le_mul_of_nonneg_right h1 (Rat.le_of_lt hw)
      have e1 : ((1 : Nat) : Rat) = 1 := rfl
      rw [e1] at h2
      grind
  have hm : x % FloatKind.f32.format.signWeight = 0 := mag_inj (B := FloatKind.f32.format.binade) (Nat.two_pow_pos _) (by
    have : mag FloatKind.f32.format.binade 0 = 0 := by decide +kernel
    rw [this]; exact hV)
  rw [hsw] at hm
  have := hx.lt32
  omega

theorem zero_add {z w : Nat} (fz : fin .f32 z) (hz : R1 z = 0) (ow : okF .f32 w) (fw : fin .f32 w) (h0 : R1 w ≠ 0) : fadd .f32 z w = w ∧ fadd .f32 w z = w := by
  unfold R1 at *
  obtain ⟨a1, a2⟩ := add_E fz fw fw (by rw [hz]; grind)
  obtain ⟨b1, b2⟩ := add_E fw fz fw (by rw [hz]; grind)
  rw [hz] at a2 b2
  exact ⟨R_inj (fadd_okF _ _ _).lt32 ow.lt32 a1 fw (by rw [a2]; grind) h0, R_inj (fadd_okF _ _ _).lt32 ow.lt32 b1 fw (by rw [b2]; grind) h0⟩

def eqT (a b : dTurn) : Bool := same a.1 b.1 && (same a.2.1 b.2.1 && (same a.2.2.1 b.2.2.1 && same a.2.2.2.1 b.2.2.2.1))
theorem eqT_iff {a b : dTurn} : eqT a b = true ↔ a = b := by
  unfold eqT
  rw [Bool.and_eq_true, Bool.and_eq_true, Bool.and_eq_true, same_iff, same_iff, same_iff, same_iff]
  obtain ⟨a1, a2, a3, a4, ⟨⟩⟩ := a
  obtain ⟨b1, b2, b3, b4, ⟨⟩⟩ := b
  constructor
  · rintro ⟨rfl, rfl, rfl, rfl⟩; rfl
  · intro h; cases h; exact ⟨rfl, rfl, rfl, rfl⟩

def atz (i j a b : Nat) : dTurn := stepOf (stepOf (a * 2147483648, (b * 2147483648, (qw i, (qw j, ())))) 0) 0
theorem at_zero : ∀ i, i < 3 → ∀ j, j < 3 → ∀ a, a < 2 → ∀ b, b < 2 → eqT (stepOf (atz i j a b) 0) (atz i j a b) = true ∧ R1 (atz i j a b).2.1 = 0 ∧ R1 (atz i j a b).1 = 0 := by decide +kernel

theorem at_rest {s : dTurn} {i j : Nat} (hi : i < 3) (hj : j < 3) (h : Spr s (qr j) (qr i)) (hw : s.2.2 = (qw i, (qw j, ()))) (hX : nearR (R1 s.1 * U) 0 32) (hv : R1 s.2.1 * U = 0) (hv' : R1 (stepOf s 0).2.1 * U = 0) :
    stepOf (stepOf (stepOf s 0) 0) 0 = stepOf (stepOf s 0) 0 ∧ R1 (stepOf (stepOf s 0) 0).2.1 = 0 ∧ nearR (R1 (stepOf (stepOf s 0) 0).1 * U) 0 32 := by
  obtain ⟨ok, fk, fd, rk, rd, hp⟩ := h
  have v0 : R1 s.2.1 = 0 := by unfold U at hv; grind
  have v1 : R1 (stepOf s 0).2.1 = 0 := by unfold U at hv'; grind
  have ip := near_In hX
  have fp := fin_small (ip.mono (by decide +kernel))
  have fv : fin .f32 s.2.1 := fin_small (by rw [v0]; exact ⟨by decide, by decide⟩)
  by_cases h0 : R1 s.1 = 0
  · obtain ⟨p, v, k, d, ⟨⟩⟩ := s
    dsimp only at *
    cases hw
    have hp' : ∃ a, a < 2 ∧ p = a * 2147483648 := by
      rcases zero_word ok.1 h0 with rfl | rfl
      · exact ⟨0, by omega, rfl⟩
      · exact ⟨1, by omega, rfl⟩
    have hv'' : ∃ b, b < 2 ∧ v = b * 2147483648 := by
      rcases zero_word ok.2.1 v0 with rfl | rfl
      · exact ⟨0, by omega, rfl⟩
      · exact ⟨1, by omega, rfl⟩
    obtain ⟨a, ha, rfl⟩ := hp'
    obtain ⟨b, hb, rfl⟩ := hv''
    obtain ⟨t1, t2, t3⟩ := at_zero i hi j hj a ha b hb
    have t1 := eqT_iff.1 t1
    unfold atz at t1 t2 t3
    refine ⟨t1, t2, ?_⟩
    rw [t3]
    unfold nearR
    exact ⟨by grind, by grind⟩
  · -- the place is not zero
    have z0 : fin .f32 0 := (fin_dec _ _).2 (by decide +kernel)
    have zR : R .f32 0 = 0 := by decide +kernel
    obtain ⟨n1, n2⟩ := fneg_R ok.1 fp
    obtain ⟨a1, a2⟩ := sub_E z0 fp n1 (by rw [n2, zR]; grind)
    have a3 : R1 (fsub .f32 0 s.1) = -R1 s.1 := by unfold R1 at *; rw [a2, zR]; grind
    have kq : 1 / 4 ≤ R1 s.2.2.1 ∧ R1 s.2.2.1 ≤ 1 := by
      rw [rk]
      have : i = 0 ∨ i = 1 ∨ i = 2 := by omega
      rcases this with rfl | rfl | rfl <;> decide +kernel
    have ia : In (R1 (fsub .f32 0 s.1)) (32 * (1 / 85070591730234615865843651857942052864)) := by rw [a3]; exact ip.neg
    have is : In (R1 s.2.2.1) 1 := ⟨by grind, kq.2⟩
    have b := ((Ap.self fk).mul (Ap.self a1) is ia ((is.mul ia).mono (N := 32 * (1 / 85070591730234615865843651857942052864)) (by grind)) (by decide +kernel)).mono (f := 1 / 10 * (1 / 85070591730234615865843651857942052864)) (by decide +kernel)
    have big : R1 s.1 * U ≤ -1 ∨ 1 ≤ R1 s.1 * U := by
      have hH := (flush_F ok.1)
      rw [hH.2 hp] at hH
      rcases hH.1 with ⟨q, _⟩ | ⟨_, q | q⟩
      · exfalso; apply h0; unfold U at q; grind
      · exact .inr q
      · exact .inl q
    have hWn : R1 (fmul .f32 s.2.2.1 (fsub .f32 0 s.1)) ≠ 0 := by
      intro hz
      have b1 := b.2.1
      have b2 := b.2.2
      have a3' : R .f32 (fsub .f32 0 s.1) = -R1 s.1 := a3
      unfold R1 at hz
      rw [hz, a3'] at b1 b2
      have e : R .f32 s.2.2.1 = R1 s.2.2.1 := rfl
      rw [e] at b1 b2
      unfold U at big
      rcases big with hb | hb
      · have := Rat.mul_le_mul_of_nonneg_left (a := R1 s.1 * 85070591730234615865843651857942052864) (b := -1) hb (c := R1 s.2.2.1) (by grind)
        grind
      · have := Rat.mul_le_mul_of_nonneg_left hb (c := R1 s.2.2.1) (by grind)
        grind
    have oW := fmul_okF .f32 s.2.2.1 (fsub .f32 0 s.1)
    have fW := b.1
    have e1 : ∀ v, fin .f32 v → R1 v = 0 → (stepOf (s.1, (v, s.2.2)) 0).2.1 = flush (fmul .f32 (fmul .f32 s.2.2.1 (fsub .f32 0 s.1)) s.2.2.2.1) := by
      intro v f r
      show flush (fmul .f32 (fadd .f32 v (fmul .f32 s.2.2.1 (fsub .f32 0 s.1))) s.2.2.2.1) = _
      rw [(zero_add f r oW fW hWn).1]
    generalize hc : flush (fmul .f32 (fmul .f32 s.2.2.1 (fsub .f32 0 s.1)) s.2.2.2.1) = c at e1
    have es : s = (s.1, (s.2.1, s.2.2)) := rfl
    have c1 : (stepOf s 0).2.1 = c := e1 s.2.1 fv v0
    rw [c1] at v1
    have fc : fin .f32 c := fin_small (by rw [v1]; exact ⟨by decide, by decide⟩)
    have st : ∀ v, fin .f32 v → R1 v = 0 → stepOf (s.1, (v, s.2.2)) 0 = (s.1, (c, s.2.2)) := by
      intro v f r
      have q1 : (stepOf (s.1, (v, s.2.2)) 0).1 = flush (fadd .f32 s.1 (stepOf (s.1, (v, s.2.2)) 0).2.1) := rfl
      rw [e1 v f r, (zero_add fc v1 ok.1 fp h0).2, (flush_F ok.1).2 hp] at q1
      have q2 := e1 v f r
      have q3 : (stepOf (s.1, (v, s.2.2)) 0).2.2 = s.2.2 := rfl
      calc stepOf (s.1, (v, s.2.2)) 0 = ((stepOf (s.1, (v, s.2.2)) 0).1, ((stepOf (s.1, (v, s.2.2)) 0).2.1, (stepOf (s.1, (v, s.2.2)) 0).2.2)) := rfl
        _ = (s.1, (c, s.2.2)) := by rw [q1, q2, q3]
    have s1 : stepOf s 0 = (s.1, (c, s.2.2)) := st s.2.1 fv v0
    rw [s1, st c fc v1, st c fc v1]
    exact ⟨rfl, v1, hX⟩

/-! ### the loops -/
theorem c_SameT {a b : dTurn} (ha : okT a) (hb : okT b) : g_i_SameSpring a b = some (eqT a b) := by
  unfold g_i_SameSpring eqT
  rw [c_i_SameNumber ha.1 hb.1, c_i_SameNumber ha.2.1 hb.2.1, c_i_SameNumber ha.2.2.1 hb.2.2.1, c_i_SameNumber ha.2.2.2 hb.2.2.2]
  simp only [opt_bind_some]
  cases same a.1 b.1 <;> cases same a.2.1 b.2.1 <;> cases same a.2.2.1 b.2.2.1 <;> cases same a.2.2.2.1 b.2.2.2.1 <;> rfl
theorem first_of {f : Nat → Bool} : ∀ (N : Nat), f N = true → ∃ n, n ≤ N ∧ f n = true ∧ ∀ j, j < n → f j = false := by
  intro N
  induction N using Nat.strongRecOn with
  | _ N ih =>
    intro h
    by_cases hj : ∃ j, j < N ∧ f j = true
    · obtain ⟨j, h1, h2⟩ := hj
      obtain ⟨n, n1, n2, n3⟩ := ih j h1 h2
      exact ⟨n, by omega, n2, n3⟩
    · refine ⟨N, Nat.le_refl N, h, fun j hlt => ?_⟩
      cases hf : f j
      · rfl
      · exact absurd ⟨j, hlt, hf⟩ hj

theorem zs_okT {s : dTurn} (h : okT s) : ∀ n, okT (zs s n)
  | 0 => h
  | n + 1 => stepOf_okT 0 (zs_okT h n)
theorem zs_stay {s : dTurn} {n : Nat} (h : stepOf (zs s n) 0 = zs s n) : ∀ j, zs s (n + j) = zs s n
  | 0 => rfl
  | j + 1 => by
    show stepOf (zs s (n + j)) 0 = _
    rw [zs_stay h j, h]

theorem rest_loop {s : dTurn} (h : okT s) {n : Nat} (hn : n ≤ 10000) (h1 : eqT (stepOf (zs s n) 0) (zs s n) = true) (h2 : ∀ j, j < n → eqT (stepOf (zs s j) 0) (zs s j) = false) : ∀ (r i N : Nat), i + r = n → r < N →
    iter L_i_RestOfSpring_1 N ((0, (10000, (0, (false, ((i : Int), ()))))), ((zs s i, ()), ())) = some (true, (((n : Int), (true, ())), ()))
  | 0, i, N, hi, hN => by
    obtain _ | N := N
    · omega
    obtain rfl : i = n := by omega
    rw [iter_succ]
    simp only [L_i_RestOfSpring_1]
    rw [ile_t (by omega), cond_t, c_i_StepSpring, opt_bind_some, c_SameT (stepOf_okT 0 (zs_okT h i)) (zs_okT h i), opt_bind_some, h1, cond_t]
  | r + 1, i, N, hi, hN => by
    obtain _ | N := N
    · omega
    rw [iter_succ]
    simp only [L_i_RestOfSpring_1]
    rw [ile_t (by omega), cond_t, c_i_StepSpring, opt_bind_some, c_SameT (stepOf_okT 0 (zs_okT h i)) (zs_okT h i), opt_bind_some, h2 i (by omega), cond_f, iadd_nat (by omega)]
    exact rest_loop h hn h1 h2 r (i + 1) N (by omega) (by omega)

theorem not_loop {s : dTurn} (h : okT s) {n : Nat} (hn : n ≤ 10000) (h2 : ∀ j, j < n → eqT (stepOf (zs s j) 0) (zs s j) = false) : ∀ (r i N : Nat), i + r = n → r < N →
    iter L_w_FnSpringRests_1 N ((false, ((n : Int), ((i : Int), ()))), ((zs s i, ()), ())) = some (false, ((false, ()), ((zs s n, ()), ())))
  | 0, i, N, hi, hN => by
    obtain _ | N := N
    · omega
    obtain rfl : i = n := by omega
    rw [iter_succ]
    simp only [L_w_FnSpringRests_1]
    rw [ilt_self, cond_f]
  | r + 1, i, N, hi, hN => by
    obtain _ | N := N
    · omega
    rw [iter_succ]
    simp only [L_w_FnSpringRests_1]
    rw [ilt_nat (by omega), cond_t, c_i_StepSpring, opt_bind_some, c_SameT (stepOf_okT 0 (zs_okT h i)) (zs_okT h i), opt_bind_some, h2 i (by omega), cond_f, iadd_nat (by omega)]
    exact not_loop h hn h2 r (i + 1) N (by omega) (by omega)

def lowk : Nat → Nat
  | 0 => 4607182418800017408
  | k + 1 => fdiv .f64 (lowk k) 4611686018427387904
theorem low_loop (b : dTurn) : ∀ (r i N : Nat), i + r = 100 → r < N → iter L_w_FnSpringRests_2 N ((lowk i, ((i : Int), ())), ((b, ()), ())) = some ((lowk 100, ()), ((b, ()), ()))
  | 0, i, N, hi, hN => by
    obtain _ | N := N
    · omega
    obtain rfl : i = 100 := by omega
    rw [iter_succ]
    simp only [L_w_FnSpringRests_2]
    rw [ilt_f (by omega), cond_f]
  | r + 1, i, N, hi, hN => by
    obtain _ | N := N
    · omega
    rw [iter_succ]
    simp only [L_w_FnSpringRests_2]
    rw [ilt_t (by omega), cond_t, iadd_nat (by omega)]
    exact low_loop b r (i + 1) N (by omega) (by omega)
theorem low_R : fin .f64 (lowk 100) ∧ (1 : Rat) / 1267650600228229401496703205377 ≤ R .f64 (lowk 100) := by
  have e : lowk 100 = 4156822456062967808 := by decide +kernel
  rw [e]
  exact ⟨fin64_dec (by decide +kernel), by decide +kernel⟩
end Go.Fw
