/- FnCodes: codes and their numbers. No condition. -/
import Derived.Test.YthmpjkfccbchfaaFEq9
import Derived.Test.YthmpjkfccbchfaaFwE
set_option linter.unusedVariables false
set_option linter.unusedSimpArgs false
namespace Go.Fw
open Ieee

theorem wide_sub_E {x y : Nat} {a b : Int} {N M : Nat} (hx : x < 2 ^ 32) (hy : y < 2 ^ 32) (h : Ev x a 2 N) (h' : Ev y b 2 M) (hN : N + M < 100000) : fin .f64 (fsub .f64 (fwide x) (fwide y)) ∧ R .f64 (fsub .f64 (fwide x) (fwide y)) = R1 x - R1 y := by
  obtain ⟨w1, w2⟩ := wide_R hx h.1
  obtain ⟨w3, w4⟩ := wide_R hy h'.1
  obtain ⟨t, t1, t2⟩ := rep_R .f64 (a - b) (-2) (by
    have e : 2 * FloatKind.f64.format.binade = 9007199254740992 := rfl
    have := h.2.2; have := h'.2.2; omega) (by decide) (by decide)
  have hw : Fw.w2 (-2) = 1 / 4 := by decide +kernel
  have e : R .f64 (fwide x) - R .f64 (fwide y) = R .f64 t := by
    have r1 := h.R2; have r2 := h'.R2
    rw [t2, w2, w4, hw, Rat.intCast_sub]
    unfold R1 at r1 r2
    rw [r1, r2]; grind
  obtain ⟨s1, s2⟩ := sub_E w1 w3 t1 e
  exact ⟨s1, by rw [s2, w2, w4]⟩

theorem div_zero_R {x y : Nat} (hx : fin .f64 x) (hy : fin .f64 y) (h0 : R .f64 y ≠ 0) (h : R .f64 x = 0) : fin .f64 (fdiv .f64 x y) ∧ R .f64 (fdiv .f64 x y) = 0 := by
  obtain ⟨m, e, h1, h2, h3⟩ := fdiv_parts hx hy h0 (Q := 0) (M := 0) (by rw [h]; grind) ⟨by decide, by decide⟩
  have hz : (m : Rat) * w2 e = 0 := by
    have a := h3.1; have b := h3.2
    cases (sg .f64 x ^^ sg .f64 y)
    · simp only [sgR, Bool.false_eq_true, if_false] at a b; grind
    · simp only [sgR, if_true] at a b; grind
  have hm : m = 0 := by
    rcases Rat.mul_eq_zero.1 hz with h4 | h4
    · exact Rat.natCast_eq_zero_iff.1 h4
    · exact absurd (w2_pos e) (by rw [h4]; decide)
  subst hm
  rw [h1]
  refine ⟨?_, round_zero _ _ _⟩
  have ht : FloatKind.f64.format.nearest (sg .f64 x ^^ sg .f64 y) 0 e = FloatKind.f64.format.word (sg .f64 x ^^ sg .f64 y) 0 := by unfold Format.nearest; rw [if_pos rfl]
  rw [ht]
  exact (word_fin (k := .f64) (g := 0) (by decide)).1

/-- A range of codes. -/
structure Rng (low high : Nat) (bits : Int) (m : Nat) : Prop where
  ol : okF .f32 low
  oh : okF .f32 high
  el : ∃ a : Int, Ev low a 2 16
  eh : ∃ b : Int, Ev high b 2 48
  wide : 1 / 4 ≤ R1 high - R1 low ∧ R1 high - R1 low ≤ 8
  low4 : In (R1 low) 4
  m3 : 3 ≤ m
  m6 : m ≤ 65535
  codes : g_i_codes bits = some ((m : Int) + 1)
  b1 : 2 ≤ bits
  b2 : bits ≤ 16
  self : fdiv .f64 (fofInt .f64 (m : Int)) (fofInt .f64 (m : Int)) = 4607182418800017408

section
variable {low high : Nat} {bits : Int} {m : Nat} (h : Rng low high bits m)

theorem Rng.sub1 (h : Rng low high bits m) : isub .i64 ((m : Int) + 1) 1 = (m : Int) := by
  have := h.m6
  rw [isub_ok (by omega) (by omega)]; omega

theorem Rng.mR (h : Rng low high bits m) : fin .f64 (fofInt .f64 (m : Int)) ∧ R .f64 (fofInt .f64 (m : Int)) = (m : Rat) ∧ 3 ≤ (m : Rat) ∧ (m : Rat) ≤ 65535 := by
  have h6 := h.m6
  have h3 := h.m3
  obtain ⟨a, b⟩ := fofInt_R (n := (m : Int)) (by omega)
  rw [Rat.intCast_natCast] at b
  have e3 : ((3 : Nat) : Rat) = 3 := rfl
  have e6 : ((65535 : Nat) : Rat) = 65535 := rfl
  have c := Rat.natCast_le_natCast.2 h3
  have d := Rat.natCast_le_natCast.2 h6
  rw [e3] at c
  rw [e6] at d
  exact ⟨a, b, c, d⟩

theorem Rng.W (h : Rng low high bits m) : fin .f64 (fsub .f64 (fwide high) (fwide low)) ∧ R .f64 (fsub .f64 (fwide high) (fwide low)) = R1 high - R1 low := by
  obtain ⟨a, ha⟩ := h.el
  obtain ⟨b, hb⟩ := h.eh
  exact wide_sub_E h.oh.lt32 h.ol.lt32 hb ha (by decide)

theorem Rng.range (h : Rng low high bits m) : t_i_isRange low high = true ∧ t_i_areBits bits = true := by
  obtain ⟨a, ha⟩ := h.el
  obtain ⟨b, hb⟩ := h.eh
  constructor
  · unfold t_i_isRange t_i_IsFinite
    rw [(finite_iff .f32 low).2 ha.1, (finite_iff .f32 high).2 hb.1, cond_t, cond_t, flt_R ha.1 hb.1]
    have := h.wide.1
    unfold R1 at this
    exact decide_eq_true (by grind)
  · unfold t_i_areBits
    have := h.b1; have := h.b2
    rw [show ile 2 bits = true by rw [ile_T]; omega, cond_t, ile_T]; omega

theorem et64_le : et .f64 ≤ 1 / 713623846352979940529142984724747568191373312 := et_le _

/-- The number of a code. -/
theorem Rng.number (h : Rng low high bits m) {c : Nat} (hc : c ≤ m) : ∃ x, g_i_numberOf (c : Int) low high bits = some x ∧ fin .f32 x ∧ okF .f32 x ∧
    Near (R1 x) (R1 low + (R1 high - R1 low) * ((c : Rat) / m)) ((4 + (R1 high - R1 low)) * (1 / 16000000)) ∧ (c = 0 → R1 x = R1 low) ∧ (c = m → R1 x = R1 high) := by
  obtain ⟨al, ha⟩ := h.el
  obtain ⟨bl, hb⟩ := h.eh
  obtain ⟨m1, m2, m3, m4⟩ := h.mR
  obtain ⟨w1, w2⟩ := h.W
  obtain ⟨l1, l2⟩ := wide_R h.ol.lt32 ha.1
  obtain ⟨wd1, wd2⟩ := h.wide
  have l4 := h.low4
  have h6 := h.m6
  obtain ⟨c1, c2⟩ := fofInt_R (n := (c : Int)) (by omega)
  rw [Rat.intCast_natCast] at c2
  have hcm : (c : Rat) ≤ (m : Rat) := Rat.natCast_le_natCast.2 hc
  have hc0 : (0 : Rat) ≤ (c : Rat) := Rat.natCast_nonneg
  have hm0 : (m : Rat) ≠ 0 := by grind
  have hq := div_mul (a := (c : Rat)) hm0
  have hqin : In ((c : Rat) / m) 1 := by
    constructor
    · exact cancel_r (c := (m : Rat)) (by grind) (by rw [hq]; grind)
    · exact cancel_r (c := (m : Rat)) (by grind) (by rw [hq]; grind)
  have hq0 : 0 ≤ (c : Rat) / m := cancel_r (c := (m : Rat)) (by grind) (by rw [hq]; grind)
  obtain ⟨q1, q2⟩ := div_R c1 m1 (by rw [m2]; exact hm0) (Q := (c : Rat) / m) (M := 1) (by rw [m2, c2]; exact hq) hqin (Rat.le_trans (show (2 : Rat) * 1 ≤ 1000 by decide +kernel) big64)
  have e64 := et64_le
  have u64 := un64
  have q3 : Near (R .f64 (fdiv .f64 (fofInt .f64 (c : Int)) (fofInt .f64 (m : Int)))) ((c : Rat) / m) (1 / 1000000000000000) := q2.mono (by rw [u64]; grind)
  generalize hqd : fdiv .f64 (fofInt .f64 (c : Int)) (fofInt .f64 (m : Int)) = qd at *
  generalize (c : Rat) / m = Q at *
  have hWin : In (R .f64 (fsub .f64 (fwide high) (fwide low))) 8 := by rw [w2]; exact ⟨by grind, wd2⟩
  have p0 : In (R .f64 (fsub .f64 (fwide high) (fwide low)) * R .f64 qd) 9 := (hWin.mul (hqin.near q3)).mono (by decide +kernel)
  obtain ⟨p1, p2⟩ := mul_R w1 q1 p0 (Rat.le_trans (show (9 : Rat) ≤ 1000 by decide +kernel) big64)
  have p3 : Near (R .f64 (fmul .f64 (fsub .f64 (fwide high) (fwide low)) qd)) ((R1 high - R1 low) * Q) (1 / 10000000000000) := by
    have n := near_mul (Near.refl (x := R1 high - R1 low) (e := 0) (by decide)) q3 (A := 8) (B := 1) ⟨by grind, wd2⟩ hqin
    rw [w2, u64] at p2
    exact ⟨by have := n.1; have := p2.1; grind, by have := n.2; have := p2.2; grind⟩
  generalize hpd : fmul .f64 (fsub .f64 (fwide high) (fwide low)) qd = pd at *
  have hWQ : In ((R1 high - R1 low) * Q) (R1 high - R1 low) := by
    have h1 : In (R1 high - R1 low) (R1 high - R1 low) := ⟨by grind, by grind⟩
    exact (h1.mul hqin).mono (by grind)
  have s0 : In (R .f64 (fwide low) + R .f64 pd) 13 := by
    rw [l2]
    exact ⟨by have := p3.1; have := hWQ.1; have := l4.1; grind, by have := p3.2; have := hWQ.2; have := l4.2; grind⟩
  obtain ⟨s1, s2⟩ := add_R l1 p1 s0 (Rat.le_trans (show (13 : Rat) ≤ 1000 by decide +kernel) big64)
  have s3 : Near (R .f64 (fadd .f64 (fwide low) pd)) (R1 low + (R1 high - R1 low) * Q) (1 / 1000000000000) := by
    rw [l2, u64] at s2
    exact ⟨by have := s2.1; have := p3.1; grind, by have := s2.2; have := p3.2; grind⟩
  have v0 : In (R .f64 (fadd .f64 (fwide low) pd)) ((4 + (R1 high - R1 low)) * (10001 / 10000)) := ⟨by have := s3.1; have := hWQ.1; have := l4.1; grind, by have := s3.2; have := hWQ.2; have := l4.2; grind⟩
  have h127 : (100 : Rat) ≤ Fw.w2 127 := by decide +kernel
  obtain ⟨x, x1, x2, _, x4, _⟩ := conv_R s1 v0 (by grind)
  have hnum : g_i_numberOf (c : Int) low high bits = some x := by
    unfold g_i_numberOf
    rw [h.codes, opt_bind_some, h.sub1, hqd, hpd, x1]; rfl
  refine ⟨x, hnum, x2, fconv_okF (fadd_okF _ _ _).1 x1, ?_, ?_, ?_⟩
  · have e32' := et_le .f32
    rw [un32] at x4
    exact ⟨by have := x4.1; have := s3.1; unfold R1 at *; grind, by have := x4.2; have := s3.2; unfold R1 at *; grind⟩
  · intro hcz
    subst hcz
    obtain ⟨d1, d2⟩ := div_zero_R c1 m1 (by rw [m2]; exact hm0) (by rw [c2]; rfl)
    rw [hqd] at d2
    obtain ⟨g1, g2⟩ := mul_E w1 q1 (zero_fin .f64) (by rw [R_zero, d2]; grind)
    rw [hpd] at g2
    obtain ⟨g3, g4⟩ := add_E l1 p1 (t := fwide low) l1 (by rw [g2, d2]; grind)
    obtain ⟨r, r1, r2, r3⟩ := conv_E s1 ha.1 (by rw [g4, g2, d2, l2]; grind)
    rw [x1] at r1
    cases r1
    unfold R1
    rw [r3, g4, g2, d2, l2]; grind
  · intro hcm'
    subst hcm'
    rw [h.self] at hqd
    obtain ⟨o1, o2⟩ := one64
    rw [hqd] at o2
    obtain ⟨g1, g2⟩ := mul_E w1 q1 (t := fsub .f64 (fwide high) (fwide low)) w1 (by rw [o2]; grind)
    rw [hpd] at g2
    obtain ⟨t1, t2⟩ := wide_R h.oh.lt32 hb.1
    obtain ⟨g3, g4⟩ := add_E l1 p1 (t := fwide high) t1 (by rw [g2, o2, w2, l2, t2]; unfold R1; grind)
    obtain ⟨r, r1, r2, r3⟩ := conv_E s1 hb.1 (by rw [g4, g2, o2, w2, l2]; unfold R1; grind)
    rw [x1] at r1
    cases r1
    unfold R1
    rw [r3, g4, g2, o2, w2, l2]; unfold R1; grind

/-- The code of a number. -/
theorem Rng.code (h : Rng low high bits m) {x : Nat} (hx : x < 2 ^ 32) (fx : fin .f32 x) (ix : In (R1 x) 13) : ∃ (d n : Int), g_i_codeOf x low high bits = some d ∧ 0 ≤ d ∧ d ≤ m ∧ (d = n ∨ d = 0 ∧ n ≤ 0 ∨ d = m ∧ (m : Int) ≤ n) ∧
    ∀ Q : Rat, Q * (R1 high - R1 low) = R1 x - R1 low → In (Q * m - n) (1 / 2 + 1 / 1000000) := by
  obtain ⟨al, ha⟩ := h.el
  obtain ⟨m1, m2, m3, m4⟩ := h.mR
  obtain ⟨w1, w2⟩ := h.W
  obtain ⟨l1, l2⟩ := wide_R h.ol.lt32 ha.1
  obtain ⟨x1, x2⟩ := wide_R hx fx
  obtain ⟨wd1, wd2⟩ := h.wide
  have l4 := h.low4
  have h6 := h.m6
  have e64 := et64_le
  have u64 := un64
  have s0 : In (R .f64 (fwide x) - R .f64 (fwide low)) 17 := by rw [x2, l2]; exact (ix.sub l4).mono (by decide +kernel)
  obtain ⟨s1, s2⟩ := sub_R x1 l1 s0 (Rat.le_trans (show (17 : Rat) ≤ 1000 by decide +kernel) big64)
  have s3 : Near (R .f64 (fsub .f64 (fwide x) (fwide low))) (R1 x - R1 low) (1 / 100000000000000) := by
    rw [x2, l2, u64] at s2
    exact s2.mono (by decide +kernel)
  generalize hsd : fsub .f64 (fwide x) (fwide low) = sd at *
  have hW0 : R .f64 (fsub .f64 (fwide high) (fwide low)) ≠ 0 := by rw [w2]; grind
  have hqd := div_mul (a := R .f64 sd) hW0
  generalize hQd : R .f64 sd / R .f64 (fsub .f64 (fwide high) (fwide low)) = Qd at *
  rw [w2] at hqd
  have hQdin : In Qd 72 := by
    refine In.cancel (c := R1 high - R1 low) (by grind) ?_
    rw [hqd]
    have := s3.1; have := s3.2; have := ix.1; have := ix.2; have := l4.1; have := l4.2
    exact ⟨by grind, by grind⟩
  obtain ⟨q1, q2⟩ := div_R s1 w1 hW0 (by rw [w2]; exact hqd) hQdin (Rat.le_trans (show (2 : Rat) * 72 ≤ 1000 by decide +kernel) big64)
  have q3 : Near (R .f64 (fdiv .f64 sd (fsub .f64 (fwide high) (fwide low)))) Qd (1 / 10000000000000) := q2.mono (by rw [u64]; grind)
  generalize hdv : fdiv .f64 sd (fsub .f64 (fwide high) (fwide low)) = qd at *
  have hmin : In (m : Rat) 65535 := ⟨by grind, m4⟩
  have big2 : (10000000 : Rat) ≤ Fw.w2 (top .f64) := by
    have hh : Fw.w2 30 ≤ Fw.w2 (top .f64) := w2_le (by decide)
    have ee : Fw.w2 30 = 1073741824 := by decide +kernel
    grind
  have p0 : In (R .f64 qd * R .f64 (fofInt .f64 (m : Int))) 5000000 := by rw [m2]; exact ((hQdin.near q3).mul hmin).mono (by decide +kernel)
  obtain ⟨p1, p2⟩ := mul_R q1 m1 p0 (Rat.le_trans (show (5000000 : Rat) ≤ 10000000 by decide +kernel) big2)
  have p3 : Near (R .f64 (fmul .f64 qd (fofInt .f64 (m : Int)))) (Qd * m) (1 / 10000000) := by
    have n := near_mul q3 (Near.refl (x := (m : Rat)) (e := 0) (by decide)) hQdin hmin
    rw [m2, u64] at p2
    exact ⟨by have := n.1; have := p2.1; grind, by have := n.2; have := p2.2; grind⟩
  generalize hyd : fmul .f64 qd (fofInt .f64 (m : Int)) = yd at *
  obtain ⟨w, n, e1, e2, e3, e4, e5⟩ := even_R p1 (by
    have hh := (hQdin.mul hmin); have := hh.1; have := hh.2; have := p3.1; have := p3.2
    exact ⟨by grind, by grind⟩)
  obtain ⟨f1, f2⟩ := fmax_R e2 (zero_fin .f64)
  rw [R_zero] at f2
  obtain ⟨g1, g2⟩ := fmin_R f1 m1
  rw [m2] at g2
  have hclamp : ∃ d : Int, R .f64 (fmin .f64 (fmax .f64 w 0) (fofInt .f64 (m : Int))) = (d : Rat) ∧ 0 ≤ d ∧ d ≤ m ∧ (d = n ∨ d = 0 ∧ n ≤ 0 ∨ d = m ∧ (m : Int) ≤ n) := by
    have ez : ((0 : Int) : Rat) = 0 := rfl
    have em : (((m : Nat) : Int) : Rat) = (m : Rat) := Rat.intCast_natCast m
    rcases f2 with ⟨a1, a2⟩ | ⟨a1, a2⟩
    · have hn0 : 0 ≤ n := Rat.intCast_le_intCast.1 (by rw [ez, ← e3]; exact a2)
      rcases g2 with ⟨b1, b2⟩ | ⟨b1, b2⟩
      · refine ⟨n, by rw [b1, a1, e3], hn0, Rat.intCast_le_intCast.1 (by rw [em, ← e3, ← a1]; exact b2), .inl rfl⟩
      · refine ⟨(m : Int), by rw [b1, em], by omega, by omega, .inr (.inr ⟨rfl, Rat.intCast_le_intCast.1 (by rw [em, ← e3, ← a1]; exact b2)⟩)⟩
    · have hn0 : n ≤ 0 := Rat.intCast_le_intCast.1 (by rw [ez, ← e3]; exact a2)
      rcases g2 with ⟨b1, b2⟩ | ⟨b1, b2⟩
      · exact ⟨0, by rw [b1, a1, ez], by omega, by omega, .inr (.inl ⟨rfl, hn0⟩)⟩
      · rw [a1] at b2
        exact absurd b2 (by grind)
  obtain ⟨d, d1, d2, d3, d4⟩ := hclamp
  have hti := toInt_R g1 d1 (by omega)
  refine ⟨d, n, ?_, d2, d3, d4, ?_⟩
  · unfold g_i_codeOf
    rw [h.codes, opt_bind_some, h.sub1, hsd, hdv, hyd, e1, opt_bind_some, hti]; rfl
  · intro Q hQ
    have hdiff : In (Q - Qd) (1 / 10000000000000) := by
      refine In.cancel (c := R1 high - R1 low) (by grind) ?_
      rw [show (Q - Qd) * (R1 high - R1 low) = (R1 x - R1 low) - R .f64 sd by rw [← hQ, ← hqd]; grind]
      have := s3.1; have := s3.2
      exact ⟨by grind, by grind⟩
    have hm2 := hdiff.mul hmin
    rw [show (Q - Qd) * (m : Rat) = Q * m - Qd * m by grind] at hm2
    have := hm2.1; have := hm2.2; have := e4.1; have := e4.2; have := p3.1; have := p3.2
    exact ⟨by grind, by grind⟩

theorem Rng.NumberOf (h : Rng low high bits m) {c : Nat} (hc : c ≤ m) {x : Nat} (hx : g_i_numberOf (c : Int) low high bits = some x) : g_i_NumberOf (c : Int) low high bits = some (x, (true, ())) := by
  unfold g_i_NumberOf
  rw [h.range.1, h.range.2, bnot_t, cond_f, cond_f, show ilt (c : Int) 0 = false by rw [ilt_F]; omega, cond_f, h.codes, opt_bind_some, show ile ((m : Int) + 1) (c : Int) = false by rw [ile_F]; omega, cond_f, hx, opt_bind_some]

theorem Rng.CodeOf (h : Rng low high bits m) {x : Nat} (fx : fin .f32 x) {d : Int} (hd : g_i_codeOf x low high bits = some d) : g_i_CodeOf x low high bits = some (d, (true, ())) := by
  unfold g_i_CodeOf
  have e : feq .f32 x x = true := by rw [feq_R fx fx]; exact decide_eq_true rfl
  rw [e, bnot_t, cond_f, h.range.1, h.range.2, bnot_t, cond_f, cond_f, hd, opt_bind_some]

theorem int_lt_of {a b : Int} {e : Rat} (h : In ((a : Rat) - b) e) (he : e < 1) : a = b := by
  have h1 : ((a - b : Int) : Rat) < ((1 : Int) : Rat) := by
    rw [Rat.intCast_sub]
    have e1 : ((1 : Int) : Rat) = 1 := rfl
    rw [e1]
    have := h.2; grind
  have h2 : ((-1 : Int) : Rat) < ((a - b : Int) : Rat) := by
    rw [Rat.intCast_sub]
    have e1 : ((-1 : Int) : Rat) = -1 := rfl
    rw [e1]
    have := h.1; grind
  have := Rat.intCast_lt_intCast.1 h1
  have := Rat.intCast_lt_intCast.1 h2
  omega

/-- A code comes back from its number. -/
theorem Rng.back (h : Rng low high bits m) {c : Nat} (hc : c ≤ m) : ∃ x, g_i_NumberOf (c : Int) low high bits = some (x, (true, ())) ∧ g_i_CodeOf x low high bits = some ((c : Int), (true, ())) ∧ flt .f32 x low = false ∧ fgt .f32 x high = false := by
  obtain ⟨al, ha⟩ := h.el
  obtain ⟨bl, hb⟩ := h.eh
  obtain ⟨_, _, m3, m4⟩ := h.mR
  obtain ⟨wd1, wd2⟩ := h.wide
  have l4 := h.low4
  obtain ⟨x, x1, x2, x3, x4, x5, x6⟩ := h.number hc
  have hm0 : (m : Rat) ≠ 0 := by grind
  have hq := div_mul (a := (c : Rat)) hm0
  have hcm : (c : Rat) ≤ (m : Rat) := Rat.natCast_le_natCast.2 hc
  have hc0 : (0 : Rat) ≤ (c : Rat) := Rat.natCast_nonneg
  have hq0 : 0 ≤ (c : Rat) / m := cancel_r (c := (m : Rat)) (by grind) (by rw [hq]; grind)
  have hq1 : (c : Rat) / m ≤ 1 := cancel_r (c := (m : Rat)) (by grind) (by rw [hq]; grind)
  generalize hQ : (c : Rat) / m = Q at *
  have hWQ := Rat.mul_le_mul_of_nonneg_left hq1 (show 0 ≤ R1 high - R1 low by grind)
  have hWQ0 := Rat.mul_nonneg (show 0 ≤ R1 high - R1 low by grind) hq0
  have ixx : In (R1 x) 13 := ⟨by have := x4.1; have := l4.1; grind, by have := x4.2; have := l4.2; grind⟩
  obtain ⟨d, n, d1, d2, d3, d4, d5⟩ := h.code x3.lt32 x2 ixx
  -- the quotient that comes back
  have hW0 : R1 high - R1 low ≠ 0 := by grind
  have hr := div_mul (a := R1 x - R1 low) hW0
  have hin := d5 _ hr
  generalize (R1 x - R1 low) / (R1 high - R1 low) = P at *
  have hP : In (P * m - c) (7 / 100) := by
    refine In.cancel (c := R1 high - R1 low) (by grind) ?_
    have e : (P * m - c) * (R1 high - R1 low) = ((R1 x - (R1 low + (R1 high - R1 low) * Q))) * m := by rw [← hq]; grind
    rw [e]
    have hE : In (R1 x - (R1 low + (R1 high - R1 low) * Q)) ((4 + (R1 high - R1 low)) * (1 / 16000000)) := ⟨by have := x4.1; grind, by have := x4.2; grind⟩
    have hmin : In (m : Rat) 65535 := ⟨by grind, m4⟩
    exact (hE.mul hmin).mono (by grind)
  have hn : n = (c : Int) := by
    refine int_lt_of (e := 1 / 2 + 1 / 1000000 + 7 / 100) ?_ (by decide +kernel)
    rw [Rat.intCast_natCast]
    have := hin.1; have := hin.2; have := hP.1; have := hP.2
    exact ⟨by grind, by grind⟩
  have hd : d = (c : Int) := by omega
  rw [hd] at d1
  refine ⟨x, h.NumberOf hc x1, h.CodeOf x2 d1, ?_, ?_⟩
  · rw [flt_R x2 ha.1]
    refine decide_eq_false (Rat.not_lt.2 ?_)
    by_cases hcz : c = 0
    · have := x5 hcz; unfold R1 at this; rw [this]; exact Rat.le_refl
    · have h1 : (1 : Rat) ≤ (c : Rat) := by
        have : ((1 : Nat) : Rat) ≤ (c : Rat) := Rat.natCast_le_natCast.2 (by omega)
        exact this
      have h2 : 1 / 65535 ≤ Q := cancel_r (c := (m : Rat)) (by grind) (by rw [hq]; grind)
      have h3 := Rat.mul_le_mul_of_nonneg_left h2 (show 0 ≤ R1 high - R1 low by grind)
      have := x4.1
      unfold R1 at *
      grind
  · rw [fgt_R x2 hb.1]
    refine decide_eq_false (Rat.not_lt.2 ?_)
    by_cases hcz : c = m
    · have := x6 hcz; unfold R1 at this; rw [this]; exact Rat.le_refl
    · have h1 : (c : Rat) + 1 ≤ (m : Rat) := by
        have : ((c + 1 : Nat) : Rat) ≤ (m : Rat) := Rat.natCast_le_natCast.2 (by omega)
        rw [Rat.natCast_add] at this
        exact this
      have h2 : Q ≤ 1 - 1 / 65535 := cancel_r (c := (m : Rat)) (by grind) (by rw [hq]; grind)
      have h3 := Rat.mul_le_mul_of_nonneg_left h2 (show 0 ≤ R1 high - R1 low by grind)
      have := x4.2
      unfold R1 at *
      grind
end

theorem step_tab : ∀ n : Nat, n < 32 → Nat.blt (fdiv .f32 (fofInt .f32 (iadd .i64 1 (n : Int))) 1082130432 % FloatKind.f32.format.signWeight) FloatKind.f32.format.infRung = true ∧ Z .f32 (fdiv .f32 (fofInt .f32 (iadd .i64 1 (n : Int))) 1082130432) = ((n : Int) + 1) * ((2 ^ 147 : Nat) : Int) := by decide +kernel

end Go.Fw
