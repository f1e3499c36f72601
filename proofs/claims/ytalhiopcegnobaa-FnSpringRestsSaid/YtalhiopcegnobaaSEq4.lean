/- The sine as it is computed, against a polynomial. No condition. -/
import Derived.Test.YtalhiopcegnobaaSEq3
import Derived.Test.YtalhiopcegnobaaSEq2
import Derived.Test.YtalhiopcegnobaaFwE
set_option linter.unusedVariables false
set_option linter.unusedSimpArgs false
namespace Go.Fw
open Ieee

abbrev R1 (x : Nat) : Rat := R .f32 x
theorem R_zero (k : FloatKind) : R k 0 = 0 := by cases k <;> decide +kernel
theorem div_mul {a b : Rat} (h : b ≠ 0) : a / b * b = a := by
  rw [Rat.div_def, Rat.mul_assoc, Rat.inv_mul_cancel _ h, Rat.mul_one]
theorem fin_dec (k : FloatKind) (x : Nat) : fin k x ↔ Nat.blt (x % k.format.signWeight) k.format.infRung = true := by
  unfold fin; simp
theorem fin64_dec {x : Nat} (h : Nat.blt (x % FloatKind.f64.format.signWeight) FloatKind.f64.format.infRung = true) : fin .f64 x := (fin_dec _ _).2 h
theorem cancel_r {a b c : Rat} (hc : 0 < c) (h : a * c ≤ b * c) : a ≤ b := by
  refine Rat.not_lt.1 fun hl => ?_
  have := Rat.mul_lt_mul_of_pos_right hl hc
  grind
theorem In.cancel {a M c : Rat} (hc : 0 < c) (h : In (a * c) (M * c)) : In a M := ⟨cancel_r hc (by have := h.1; grind), cancel_r hc h.2⟩
/-! ### double precision, near -/
def Ad (x : Nat) (a e : Rat) : Prop := fin .f64 x ∧ Near (R .f64 x) a e
def v64 : Rat := 1 / 9007199254740992
theorem big10 : (1000000 : Rat) ≤ w2 (top .f64) := by
  have h : w2 20 ≤ w2 (top .f64) := w2_le (by decide)
  have e : w2 20 = 1048576 := by decide +kernel
  grind
theorem e64_le : et .f64 ≤ 1 / 713623846352979940529142984724747568191373312 := et_le _

section
variable {x y : Nat} {a b e f A B M : Rat}
theorem Ad.mono (h : Ad x a e) (hf : e ≤ f) : Ad x a f := ⟨h.1, h.2.mono hf⟩
theorem Ad.cast (h : Ad x a e) (hf : a = b) : Ad x b e := hf ▸ h
theorem Ad.self (h : fin .f64 x) : Ad x (R .f64 x) 0 := ⟨h, Near.refl (by decide)⟩
theorem Ad.inn (h : Ad x a e) (hA : In a A) : In (R .f64 x) (A + e) := hA.near h.2
theorem Ad.add (hx : Ad x a e) (hy : Ad y b f) (hM : In (a + b) M) (hb : M + e + f ≤ 1000000) : Ad (fadd .f64 x y) (a + b) (e + f + (M + e + f) * v64) := by
  have hn : Near (R .f64 x + R .f64 y) (a + b) (e + f) := ⟨by have := hx.2.1; have := hy.2.1; grind, by have := hx.2.2; have := hy.2.2; grind⟩
  have hin := hM.near hn
  obtain ⟨h1, h2⟩ := add_R hx.1 hy.1 (M := M + e + f) (hin.mono (by grind)) (Rat.le_trans hb big10)
  rw [un64] at h2
  exact ⟨h1, (h2.trans hn).mono (by unfold v64; grind)⟩
theorem Ad.sub (hx : Ad x a e) (hy : Ad y b f) (hM : In (a - b) M) (hb : M + e + f ≤ 1000000) : Ad (fsub .f64 x y) (a - b) (e + f + (M + e + f) * v64) := by
  have hn : Near (R .f64 x - R .f64 y) (a - b) (e + f) := ⟨by have := hx.2.1; have := hy.2.2; grind, by have := hx.2.2; have := hy.2.1; grind⟩
  have hin := hM.near hn
  obtain ⟨h1, h2⟩ := sub_R hx.1 hy.1 (M := M + e + f) (hin.mono (by grind)) (Rat.le_trans hb big10)
  rw [un64] at h2
  exact ⟨h1, (h2.trans hn).mono (by unfold v64; grind)⟩
theorem Ad.mul (hx : Ad x a e) (hy : Ad y b f) (hA : In a A) (hB : In b B) (hM : In (a * b) M) (hb : M + (A * f + B * e + e * f) ≤ 1000000) :
    Ad (fmul .f64 x y) (a * b) (A * f + B * e + e * f + (M + (A * f + B * e + e * f)) * v64 + e32) := by
  have hn := near_mul hx.2 hy.2 hA hB
  have hin := hM.near hn
  obtain ⟨h1, h2⟩ := mul_R hx.1 hy.1 hin (Rat.le_trans hb big10)
  rw [un64] at h2
  have := e64_le
  exact ⟨h1, (h2.trans hn).mono (by unfold v64 e32; grind)⟩
end

/-! ### the loop -/
/-- The polynomial of the loop, from k on. -/
def pol (U : Rat) : Nat → Rat → Rat
  | 0, a => a
  | k + 1, a => pol U k (1 - U * a / (2 * (k + 1 : Nat) * (2 * (k + 1 : Nat) + 1)))

theorem den_tab : ∀ k : Nat, k < 8 → Nat.blt (fofInt .f64 (imul .i64 (imul .i64 2 ((k + 1 : Nat) : Int)) (iadd .i64 (imul .i64 2 ((k + 1 : Nat) : Int)) 1)) % FloatKind.f64.format.signWeight) FloatKind.f64.format.infRung = true ∧
    R .f64 (fofInt .f64 (imul .i64 (imul .i64 2 ((k + 1 : Nat) : Int)) (iadd .i64 (imul .i64 2 ((k + 1 : Nat) : Int)) 1))) = 2 * (k + 1 : Nat) * (2 * (k + 1 : Nat) + 1) := by decide +kernel

theorem one_d : Ad 4607182418800017408 1 0 := ⟨fin64_dec (by decide +kernel), by
  have e : R .f64 4607182418800017408 = 1 := by decide +kernel
  rw [e]; exact Near.refl (by decide)⟩

theorem pol_step {U a D : Rat} (hU0 : 0 ≤ U) (hU : U ≤ 247 / 100) (a0 : 0 ≤ a) (a1 : a ≤ 1) (hD : 6 ≤ D) : 0 ≤ 1 - U * a / D ∧ 1 - U * a / D ≤ 1 := by
  have hDp : 0 < D := by grind
  have e := div_mul (a := U * a) (b := D) (by grind)
  have h0 := Rat.mul_nonneg hU0 a0
  have h1 : U * a ≤ 247 / 100 := by
    have := Rat.mul_le_mul_of_nonneg_left a1 hU0
    grind
  generalize U * a / D = q at *
  have q0 : 0 ≤ q := cancel_r hDp (by rw [e]; grind)
  have q1 : q ≤ 1 := cancel_r hDp (by rw [e]; grind)
  exact ⟨by grind, by grind⟩

theorem sine_loop_R (turned : Bool) (z u : Nat) {U : Rat} (hu : Ad u U (1 / 100000000000000)) (hU0 : 0 ≤ U) (hU : U ≤ 247 / 100) : ∀ (k N p : Nat) (a : Rat), k ≤ 8 → k < N → Ad p a (1 / 100000000000000) → 0 ≤ a → a ≤ 1 →
    ∃ p', iter L_i_sine_1 N ((turned, (z, (u, (p, ((k : Int), ()))))), ()) = some ((turned, (z, (p', ()))), ()) ∧ Ad p' (pol U k a) (1 / 100000000000000) ∧ 0 ≤ pol U k a ∧ pol U k a ≤ 1
  | 0, N, p, a, _, hN, hp, a0, a1 => by
    obtain _ | N := N
    · omega
    refine ⟨p, ?_, hp, a0, a1⟩
    rw [iter_succ]
    simp only [L_i_sine_1]
    rfl
  | k + 1, N, p, a, hk, hN, hp, a0, a1 => by
    obtain _ | N := N
    · omega
    obtain ⟨t1, t2⟩ := den_tab k (by omega)
    have df := fin64_dec t1
    -- the step in rational numbers
    have hk0 : (1 : Rat) ≤ ((k + 1 : Nat) : Rat) := by
      have : ((1 : Nat) : Rat) ≤ ((k + 1 : Nat) : Rat) := Rat.natCast_le_natCast.2 (by omega)
      exact this
    have hk8 : ((k + 1 : Nat) : Rat) ≤ 8 := by
      have : ((k + 1 : Nat) : Rat) ≤ ((8 : Nat) : Rat) := Rat.natCast_le_natCast.2 (by omega)
      exact this
    generalize hK : ((k + 1 : Nat) : Rat) = K at *
    have hD6 : 6 ≤ 2 * K * (2 * K + 1) := by
      have := Rat.mul_nonneg (a := K - 1) (b := K + 1) (by grind) (by grind)
      grind
    have hD300 : 2 * K * (2 * K + 1) ≤ 272 := by
      have := Rat.mul_nonneg (a := 8 - K) (b := 8 + K) (by grind) (by grind)
      grind
    obtain ⟨s0, s1⟩ := pol_step hU0 hU a0 a1 hD6
    generalize hD : 2 * K * (2 * K + 1) = D at *
    -- the product
    have Uin : In U (247 / 100) := ⟨by grind, hU⟩
    have ain : In a 1 := ⟨by grind, a1⟩
    have m := (hu.mul hp Uin ain ((Uin.mul ain).mono (N := 247 / 100) (by decide +kernel)) (by decide +kernel)).mono (f := 36 / 1000000000000000) (by decide +kernel)
    -- the quotient
    have hDn : R .f64 (fofInt .f64 (imul .i64 (imul .i64 2 ((k + 1 : Nat) : Int)) (iadd .i64 (imul .i64 2 ((k + 1 : Nat) : Int)) 1))) ≠ 0 := by rw [t2]; grind
    have eqq := div_mul (a := R .f64 (fmul .f64 u p)) hDn
    have e0 := div_mul (a := U * a) (b := D) (by grind)
    rw [t2] at eqq
    have hmin := m.inn ((Uin.mul ain).mono (N := 247 / 100) (by decide +kernel))
    have qin : In (R .f64 (fmul .f64 u p) / R .f64 (fofInt .f64 (imul .i64 (imul .i64 2 ((k + 1 : Nat) : Int)) (iadd .i64 (imul .i64 2 ((k + 1 : Nat) : Int)) 1)))) (1 / 2) := by
      refine In.cancel (c := D) (by grind) ?_
      rw [t2] at *
      rw [eqq]
      exact hmin.mono (by grind)
    obtain ⟨q1, q2⟩ := div_R m.1 df hDn (by rw [t2]; rw [t2] at *; exact eqq) qin (Rat.le_trans (by decide +kernel) big10)
    have q3 : Ad (fdiv .f64 (fmul .f64 u p) (fofInt .f64 (imul .i64 (imul .i64 2 ((k + 1 : Nat) : Int)) (iadd .i64 (imul .i64 2 ((k + 1 : Nat) : Int)) 1)))) (U * a / D) (7 / 1000000000000000) := by
      refine ⟨q1, ?_⟩
      rw [un64] at q2
      have e64 := e64_le
      have hdf : In (R .f64 (fmul .f64 u p) / R .f64 (fofInt .f64 (imul .i64 (imul .i64 2 ((k + 1 : Nat) : Int)) (iadd .i64 (imul .i64 2 ((k + 1 : Nat) : Int)) 1))) - U * a / D) (6 / 1000000000000000) := by
        refine In.cancel (c := D) (by grind) ?_
        have : (R .f64 (fmul .f64 u p) / R .f64 (fofInt .f64 (imul .i64 (imul .i64 2 ((k + 1 : Nat) : Int)) (iadd .i64 (imul .i64 2 ((k + 1 : Nat) : Int)) 1))) - U * a / D) * D = R .f64 (fmul .f64 u p) - U * a := by
          rw [show ∀ X Y : Rat, (X - Y) * D = X * D - Y * D from fun X Y => by grind, e0]
          rw [t2] at *
          rw [eqq]
        rw [this]
        have := m.2.1; have := m.2.2
        exact ⟨by grind, by grind⟩
      have := q2.1; have := q2.2; have := hdf.1; have := hdf.2
      exact ⟨by grind, by grind⟩
    -- less than 1
    have r := (one_d.sub q3 (M := 1) ⟨by grind, s1⟩ (by decide +kernel)).mono (f := 1 / 100000000000000) (by decide +kernel)
    obtain ⟨p', h1, h2, h3, h4⟩ := sine_loop_R turned z u hu hU0 hU k N _ (1 - U * a / D) (by omega) (by omega) r s0 s1
    have hpol : pol U (k + 1) a = pol U k (1 - U * a / D) := by
      show pol U k (1 - U * a / (2 * ((k + 1 : Nat) : Rat) * (2 * ((k + 1 : Nat) : Rat) + 1))) = _
      rw [hK, hD]
    rw [hpol]
    refine ⟨p', ?_, h2, h3, h4⟩
    rw [iter_succ]
    simp only [L_i_sine_1]
    rw [show ile 1 ((k + 1 : Nat) : Int) = true by simp [ile]; omega, cond_t, show isub .i64 ((k + 1 : Nat) : Int) 1 = (k : Int) by rw [isub_ok (by omega) (by omega)]; omega]
    exact h1

def tau : Rat := R .f64 4618760256179416344
theorem tau_in : 628 / 100 ≤ tau ∧ tau ≤ 62831854 / 10000000 := by unfold tau; constructor <;> decide +kernel
theorem tau_fin : fin .f64 4618760256179416344 := fin64_dec (by decide +kernel)
/-- The sine's polynomial, of an angle. -/
def Sz (z : Rat) : Rat := z * pol (z * z) 8 1
theorem Sz_odd (z : Rat) : Sz (-z) = -Sz z := by unfold Sz; rw [show -z * -z = z * z by grind]; grind

theorem sineEnd_R (turned : Bool) {f : Nat} {F : Rat} (hf : Ad f F (1 / 4000000000000000)) (F0 : -(1 / 1000000000000) ≤ F) (F1 : F ≤ 1 / 4 + 1 / 1000000000000) :
    ∃ r, sineEnd turned f = some r ∧ okF .f64 r ∧ Ad r (if turned then -Sz (tau * F) else Sz (tau * F)) (1 / 10000000000000) := by
  obtain ⟨t1, t2⟩ := tau_in
  have tin : In tau (62831854 / 10000000) := ⟨by grind, t2⟩
  have Fin' : In F (250001 / 1000000) := ⟨by grind, by grind⟩
  have zin : In (F * tau) (15709 / 10000) := (Fin'.mul tin).mono (by decide +kernel)
  have z := (hf.mul (Ad.self tau_fin) Fin' tin zin (by decide +kernel)).mono (f := 2 / 1000000000000000) (by decide +kernel)
  have e : F * R .f64 4618760256179416344 = tau * F := by unfold tau; grind
  have z' : Ad (fmul .f64 f 4618760256179416344) (tau * F) (2 / 1000000000000000) := z.cast e
  have zin' : In (tau * F) (15709 / 10000) := by rw [show tau * F = F * tau by grind]; exact zin
  have u := (z'.mul z' zin' zin' (zin'.mul zin') (by decide +kernel)).mono (f := 1 / 100000000000000) (by decide +kernel)
  have U0 := sq_nn (tau * F)
  have U1 : tau * F * (tau * F) ≤ 247 / 100 := by have := (zin'.mul zin').2; grind
  obtain ⟨p', h1, h2, h3, h4⟩ := sine_loop_R turned (fmul .f64 f 4618760256179416344) _ u U0 U1 8 fuel 4607182418800017408 1 (by omega) (by unfold fuel; omega) (one_d.mono (by decide +kernel)) (by decide) (Rat.le_refl)
  unfold sineEnd
  rw [show ((8 : Nat) : Int) = 8 from rfl] at h1
  rw [h1, opt_bind_some]
  have pin : In (pol (tau * F * (tau * F)) 8 1) 1 := ⟨by grind, h4⟩
  have r := (z'.mul h2 zin' pin ((zin'.mul pin).mono (N := 16 / 10) (by decide +kernel)) (by decide +kernel)).mono (f := 1 / 10000000000000) (by decide +kernel)
  have r' : Ad (fmul .f64 (fmul .f64 f 4618760256179416344) p') (Sz (tau * F)) (1 / 10000000000000) := r
  cases turned
  · exact ⟨_, rfl, fmul_okF _ _ _, r'⟩
  · obtain ⟨n1, n2⟩ := fneg_R (fmul_okF .f64 (fmul .f64 f 4618760256179416344) p') r'.1
    exact ⟨_, rfl, fneg_okF _ (fmul_okF _ _ _), n1, by rw [n2]; exact r'.2.neg⟩

/-- The place of a share of a turn on the wave of triangles. -/
def TT (F t : Rat) : Prop := (F ≤ 1 / 4 + 1 / 100000000000000 ∧ t = F) ∨ (1 / 4 - 1 / 100000000000000 ≤ F ∧ F ≤ 3 / 4 + 1 / 100000000000000 ∧ t = 1 / 2 - F) ∨ (3 / 4 - 1 / 100000000000000 ≤ F ∧ t = F - 1)

theorem half_d : fin .f64 4602678819172646912 ∧ R .f64 4602678819172646912 = 1 / 2 := ⟨fin64_dec (by decide +kernel), by decide +kernel⟩
theorem quar_d : fin .f64 4598175219545276416 ∧ R .f64 4598175219545276416 = 1 / 4 := ⟨fin64_dec (by decide +kernel), by decide +kernel⟩

theorem sineOf_R {f : Nat} (hf : fin .f64 f) (F0 : -(1 / 1000000000000000) ≤ R .f64 f) (F1 : R .f64 f ≤ 1 + 1 / 1000000000000000) : ∃ r t, sineOf f = some r ∧ okF .f64 r ∧ TT (R .f64 f) t ∧ Ad r (Sz (tau * t)) (1 / 10000000000000) := by
  have hh : Ad 4602678819172646912 (1 / 2) 0 := ⟨half_d.1, by rw [half_d.2]; exact Near.refl (by decide)⟩
  have hs := Ad.self hf
  have odd : ∀ G : Rat, (if true = true then -Sz (tau * G) else Sz (tau * G)) = Sz (tau * (-G)) := fun G => by
    rw [if_pos rfl, show tau * -G = -(tau * G) by grind, Sz_odd]
  unfold sineOf
  rw [fge_R hf half_d.1, half_d.2]
  by_cases c1 : 1 / 2 ≤ R .f64 f
  · rw [decide_eq_true c1, cond_t]
    have g := (hs.sub hh (M := 6 / 10) ⟨by grind, by grind⟩ (by decide +kernel)).mono (f := 1 / 10000000000000000) (by decide +kernel)
    rw [fgt_R g.1 quar_d.1, quar_d.2]
    by_cases c2 : 1 / 4 < R .f64 (fsub .f64 f 4602678819172646912)
    · rw [decide_eq_true c2, cond_t]
      have a := (hh.sub g (M := 1 / 2) ⟨by have := g.2.2; grind, by grind⟩ (by decide +kernel)).mono (f := 1 / 4000000000000000) (by decide +kernel)
      obtain ⟨r, r1, r2, r3⟩ := sineEnd_R true a (by grind) (by have := g.2.2; grind)
      rw [odd] at r3
      exact ⟨r, _, r1, r2, .inr (.inr ⟨by have := g.2.2; grind, by grind⟩), r3⟩
    · rw [decide_eq_false c2, cond_f]
      have hle := Rat.not_lt.1 c2
      obtain ⟨r, r1, r2, r3⟩ := sineEnd_R true (g.mono (by decide +kernel)) (by grind) (by have := g.2.1; grind)
      rw [odd] at r3
      exact ⟨r, _, r1, r2, .inr (.inl ⟨by grind, by have := g.2.1; grind, by grind⟩), r3⟩
  · rw [decide_eq_false c1, cond_f, fgt_R hf quar_d.1, quar_d.2]
    have hlt := Rat.not_le.1 c1
    by_cases c2 : 1 / 4 < R .f64 f
    · rw [decide_eq_true c2, cond_t]
      have a := (hh.sub hs (M := 1 / 2) ⟨by grind, by grind⟩ (by decide +kernel)).mono (f := 1 / 4000000000000000) (by decide +kernel)
      obtain ⟨r, r1, r2, r3⟩ := sineEnd_R false a (by grind) (by grind)
      rw [if_neg (by decide)] at r3
      exact ⟨r, _, r1, r2, .inr (.inl ⟨by grind, by grind, rfl⟩), r3⟩
    · rw [decide_eq_false c2, cond_f]
      have hle := Rat.not_lt.1 c2
      obtain ⟨r, r1, r2, r3⟩ := sineEnd_R false (hs.mono (by decide +kernel)) (by grind) (by grind)
      rw [if_neg (by decide)] at r3
      exact ⟨r, _, r1, r2, .inl ⟨by grind, rfl⟩, r3⟩
end Go.Fw
