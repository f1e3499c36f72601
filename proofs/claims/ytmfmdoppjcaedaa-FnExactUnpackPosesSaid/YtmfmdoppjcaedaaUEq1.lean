/- Rounding does not pass a number that there is; so the number of a code of a reach can be narrowed. No condition. -/
import Derived.Test.YtmfmdoppjcaedaaFwF
set_option linter.unusedVariables false
set_option linter.unusedSimpArgs false
namespace Go.Fw
open Ieee

theorem cancelU {a b c : Rat} (hc : 0 < c) (h : a * c ≤ b * c) : a ≤ b := by
  refine Rat.not_lt.1 fun hl => ?_
  have := Rat.mul_lt_mul_of_pos_right hl hc
  grind

theorem round_le {k : FloatKind} {s : Bool} {m : Nat} {e : Int} {t : Nat} (ht : fin k t) (h : (m : Rat) * w2 e ≤ R k t) :
    fin k (k.format.nearest s m e) ∧ ∃ v : Rat, 0 ≤ v ∧ v ≤ R k t ∧ R k (k.format.nearest s m e) = sgR s v := by
  have hv : 0 ≤ (m : Rat) * w2 e := Rat.mul_nonneg (Rat.natCast_nonneg) (Rat.le_of_lt (w2_pos _))
  have hv2 : 0 ≤ (V k t : Rat) * w2 k.format.leastPlace := Rat.mul_nonneg (Rat.natCast_nonneg) (Rat.le_of_lt (w2_pos _))
  have hRt : R k t = (V k t : Rat) * w2 k.format.leastPlace := by
    rw [R_V] at h ⊢
    cases hs : sg k t
    · rfl
    · rw [hs] at h
      simp only [sgR, if_true] at h ⊢; grind
  rw [hRt] at h ⊢
  have hnat : m * 2 ^ (e - k.format.leastPlace).toNat ≤ V k t * 2 ^ (k.format.leastPlace - e).toNat := by
    apply Rat.natCast_le_natCast.1
    rw [natR_mul, natR_mul, ← w2_nat, ← w2_nat]
    rcases Int.le_total e k.format.leastPlace with hl | hl
    · have e1 : ((e - k.format.leastPlace).toNat : Int) = 0 := by omega
      have e2 : ((k.format.leastPlace - e).toNat : Int) = k.format.leastPlace - e := by omega
      rw [e1, e2, w2_zero]
      have hw : w2 k.format.leastPlace = w2 (k.format.leastPlace - e) * w2 e := by rw [← w2_add]; congr 1; omega
      rw [hw] at h
      exact cancelU (w2_pos e) (by grind)
    · have e1 : ((k.format.leastPlace - e).toNat : Int) = 0 := by omega
      have e2 : ((e - k.format.leastPlace).toNat : Int) = e - k.format.leastPlace := by omega
      rw [e1, e2, w2_zero]
      have hw : w2 e = w2 (e - k.format.leastPlace) * w2 k.format.leastPlace := by rw [← w2_add]; congr 1; omega
      rw [hw] at h
      exact cancelU (w2_pos k.format.leastPlace) (by grind)
  have ht' : t % k.format.signWeight < k.format.infRung := ht
  obtain ⟨g, g1, g2, _⟩ := near_le k.format s (m := m) (e := e) (r := t % k.format.signWeight) hnat
  rw [g1]
  obtain ⟨f1, f2, f3⟩ := fin_word (k := k) (s := s) (g := g) (by omega)
  refine ⟨f1, _, Rat.mul_nonneg (Rat.natCast_nonneg) (Rat.le_of_lt (w2_pos k.format.leastPlace)), ?_, f3⟩
  refine Rat.mul_le_mul_of_nonneg_right (Rat.natCast_le_natCast.2 ?_) (Rat.le_of_lt (w2_pos _))
  exact mag_mono (Nat.two_pow_pos _) g2

theorem In_sgR {s : Bool} {v M : Rat} (h0 : 0 ≤ v) (h : v ≤ M) : In (sgR s v) M := by
  cases s
  · exact ⟨by simp only [sgR]; grind, by simp only [sgR]; grind⟩
  · exact ⟨by simp only [sgR]; grind, by simp only [sgR]; grind⟩

theorem add_le {k : FloatKind} {x y t : Nat} (hx : fin k x) (hy : fin k y) (ht : fin k t) (h : In (R k x + R k y) (R k t)) : fin k (fadd k x y) ∧ In (R k (fadd k x y)) (R k t) := by
  obtain ⟨m, c, h1, h2⟩ := fadd_fin hx hy
  have hz : R k x + R k y = ((Z k x + Z k y : Int) : Rat) * w2 k.format.leastPlace := by
    unfold R; rw [Rat.intCast_add]; grind
  rw [hz, ← sum_R (k := k) (t := sg k x && sg k y) h2] at h
  have hv : 0 ≤ (m : Rat) * w2 (k.format.leastPlace + c) := Rat.mul_nonneg (Rat.natCast_nonneg) (Rat.le_of_lt (w2_pos _))
  obtain ⟨r1, v, v0, v1, r2⟩ := round_le (s := if Z k x + Z k y = 0 then sg k x && sg k y else decide (Z k x + Z k y < 0)) ht (h.sgR hv)
  rw [h1, r2]
  exact ⟨r1, In_sgR v0 v1⟩

theorem mul_le {k : FloatKind} {x y t : Nat} (hx : fin k x) (hy : fin k y) (ht : fin k t) (h0 : 0 ≤ R k x * R k y) (h : R k x * R k y ≤ R k t) : fin k (fmul k x y) ∧ 0 ≤ R k (fmul k x y) ∧ R k (fmul k x y) ≤ R k t := by
  obtain ⟨m, e, h1, h2⟩ := fmul_fin hx hy
  rw [← h2] at h h0
  have hv : 0 ≤ (m : Rat) * w2 e := Rat.mul_nonneg (Rat.natCast_nonneg) (Rat.le_of_lt (w2_pos _))
  rw [h1]
  cases hs : (sg k x ^^ sg k y)
  · rw [hs] at h
    obtain ⟨r1, v, v0, v1, r2⟩ := round_le (s := false) ht (show (m : Rat) * w2 e ≤ R k t from h)
    rw [r2]
    exact ⟨r1, v0, v1⟩
  · rw [hs] at h0 h
    simp only [sgR, if_true] at h0 h
    have hz : (m : Rat) * w2 e = 0 := by grind
    have hm : m = 0 := by
      rcases Rat.mul_eq_zero.1 hz with h4 | h4
      · exact Rat.natCast_eq_zero_iff.1 h4
      · exact absurd (w2_pos e) (by rw [h4]; decide)
    subst hm
    obtain ⟨r1, _⟩ := round_le (k := k) (s := true) (m := 0) (e := e) ht (by grind)
    rw [round_zero]
    exact ⟨r1, by decide +kernel, by grind⟩

theorem conv_le {w t : Nat} (hw : fin .f64 w) (ht : fin .f32 t) (h : In (R .f64 w) (R .f32 t)) : ∃ r, fconv .f64 .f32 w = some r := by
  obtain ⟨m, a, hr, e⟩ := R_read hw
  rw [e] at h
  have hv : 0 ≤ (m : Rat) * w2 (FloatKind.f64.format.leastPlace + a) := Rat.mul_nonneg (Rat.natCast_nonneg) (Rat.le_of_lt (w2_pos _))
  obtain ⟨r1, _⟩ := round_le (k := .f32) (s := sg .f64 w) ht (h.sgR hv)
  exact ⟨_, conv_any hw hr rfl r1⟩

/-- Twice a number of 32 bits. -/
theorem two_wide {r : Nat} (hr : r < 2 ^ 32) (hf : fin .f32 r) (hp : 0 ≤ R .f32 r) : ∃ t, fin .f64 t ∧ R .f64 t = 2 * R .f32 r := by
  obtain ⟨m, a, h1, h2, h3, h4⟩ := mant32 hf
  have hm : 0 ≤ (m : Rat) * w2 (-149 + a) := Rat.mul_nonneg (Rat.natCast_nonneg) (Rat.le_of_lt (w2_pos _))
  have e1 : R .f32 r = (m : Rat) * w2 (-149 + a) := by
    rw [h1] at hp ⊢
    cases hs : sg .f32 r
    · rfl
    · rw [hs] at hp; simp only [sgR, if_true] at hp ⊢; grind
  obtain ⟨t, t1, t2⟩ := rep_R .f64 (m : Int) (-149 + a + 1) (by rw [show FloatKind.f64.format.binade = 2 ^ 52 from rfl]; omega) (by rw [show FloatKind.f64.format.leastPlace = -1074 from rfl]; omega) (by rw [show (FloatKind.f64.format.fractionBits : Nat) = 52 from rfl, show top .f64 = 1023 from rfl]; omega)
  refine ⟨t, t1, ?_⟩
  rw [t2, e1, w2_add (-149 + a) 1, w2_one, Rat.intCast_natCast]
  grind

/-- The number of a code of a reach. -/
theorem number_ok {r : Nat} (hr : okF .f32 r) (hf : fin .f32 r) (hp : 0 ≤ R .f32 r) {c m : Nat} (hc : c ≤ m) (h3 : 3 ≤ m) (h6 : m ≤ 65535) (self : fdiv .f64 (fofInt .f64 (m : Int)) (fofInt .f64 (m : Int)) = 4607182418800017408) (zero : fdiv .f64 (fofInt .f64 (0 : Int)) (fofInt .f64 (m : Int)) = 0) :
    ∃ x, fconv .f64 .f32 (fadd .f64 (fwide (fneg .f32 r)) (fmul .f64 (fsub .f64 (fwide r) (fwide (fneg .f32 r))) (fdiv .f64 (fofInt .f64 (c : Int)) (fofInt .f64 (m : Int))))) = some x := by
  obtain ⟨n1, n2⟩ := fneg_R hr hf
  obtain ⟨w1, w2'⟩ := wide_R hr.lt32 hf
  obtain ⟨l1, l2⟩ := wide_R (fneg_okF .f32 hr).lt32 n1
  rw [n2] at l2
  obtain ⟨t, t1, t2⟩ := two_wide hr.lt32 hf hp
  obtain ⟨d1, d2⟩ := sub_E w1 l1 t1 (by rw [w2', l2, t2]; grind)
  rw [w2', l2] at d2
  obtain ⟨c1, c2⟩ := fofInt_R (n := (c : Int)) (by omega)
  obtain ⟨m1, m2⟩ := fofInt_R (n := (m : Int)) (by omega)
  rw [Rat.intCast_natCast] at c2 m2
  have hone : fin .f64 4607182418800017408 ∧ R .f64 4607182418800017408 = 1 := ⟨by unfold fin; decide +kernel, by decide +kernel⟩
  have hq : fin .f64 (fdiv .f64 (fofInt .f64 (c : Int)) (fofInt .f64 (m : Int))) ∧ 0 ≤ R .f64 (fdiv .f64 (fofInt .f64 (c : Int)) (fofInt .f64 (m : Int))) ∧ R .f64 (fdiv .f64 (fofInt .f64 (c : Int)) (fofInt .f64 (m : Int))) ≤ 1 := by
    have e3 : ((3 : Nat) : Rat) = 3 := rfl
    have e6 : ((65535 : Nat) : Rat) = 65535 := rfl
    have g3 := Rat.natCast_le_natCast.2 h3
    have g6 := Rat.natCast_le_natCast.2 h6
    rw [e3] at g3
    rw [e6] at g6
    by_cases hcm : c = m
    · subst hcm
      rw [self]
      exact ⟨hone.1, by rw [hone.2]; decide, by rw [hone.2]; exact Rat.le_refl⟩
    by_cases hc0 : c = 0
    · subst hc0
      rw [show ((0 : Nat) : Int) = 0 from rfl, zero]
      exact ⟨by unfold fin; decide +kernel, by decide +kernel, by decide +kernel⟩
    · have hm0 : (m : Rat) ≠ 0 := by grind
      have hc1 : (1 : Rat) ≤ (c : Rat) := by
        have := Rat.natCast_le_natCast.2 (show 1 ≤ c by omega)
        exact this
      have hcm1 : (c : Rat) + 1 ≤ (m : Rat) := by
        have := Rat.natCast_le_natCast.2 (show c + 1 ≤ m by omega)
        rw [Rat.natCast_add] at this
        exact this
      have hdm : (c : Rat) / m * m = c := Rat.div_mul_cancel hm0
      have hup : (c : Rat) / m ≤ 1 - 1 / 65535 := cancelU (c := (m : Rat)) (by grind) (by rw [hdm]; grind)
      have hlo : 1 / 65535 ≤ (c : Rat) / m := cancelU (c := (m : Rat)) (by grind) (by rw [hdm]; grind)
      obtain ⟨q1, q2⟩ := div_R c1 m1 (by rw [m2]; exact hm0) (Q := (c : Rat) / m) (M := 1) (by rw [m2, c2]; exact hdm) ⟨by grind, by grind⟩ (by decide +kernel)
      have e64 := et_le .f64
      rw [un64] at q2
      refine ⟨q1, ?_, ?_⟩
      · have := q2.1; grind
      · have := q2.2; grind
  generalize fdiv .f64 (fofInt .f64 (c : Int)) (fofInt .f64 (m : Int)) = q at *
  obtain ⟨q1, q2, q3⟩ := hq
  have h2r : 0 ≤ 2 * R .f32 r := by grind
  obtain ⟨p1, p2, p3⟩ := mul_le d1 q1 t1 (by rw [d2]; exact Rat.mul_nonneg (by grind) q2) (by
    rw [d2, t2]
    have := Rat.mul_le_mul_of_nonneg_left q3 h2r
    grind)
  rw [t2] at p3
  obtain ⟨s1, s2⟩ := add_le l1 p1 w1 (by rw [l2, w2']; exact ⟨by grind, by grind⟩)
  rw [w2'] at s2
  exact conv_le s1 hf s2
end Go.Fw
