/- FnPendulums: the eight steps, and the law. No condition. -/
import Derived.Test.YtalhiopcegnobaaSEq9
set_option linter.unusedVariables false
set_option linter.unusedSimpArgs false
namespace Go.Fw
open Ieee

/-- The first step keeps opposite words opposite. -/
theorem first_step {s o : dTurn} (hs : s.2.2 = o.2.2) (h1 : Op s.1 o.1) (h2 : Op s.2.1 o.2.1) (i1 : In (R1 s.1) (1 / 8)) (i2 : In (R1 s.2.1) (1 / 64)) (os : okB s) (oo : okB o) (hp : Pd s) (hsin : sinB s.1 o.1 = true) :
    Sw (nxt s) (nxt o) (26635 / 100000) (14134 / 100000) 0 0 := by
  have x1 := h1.R
  have x2 := h2.R
  have sw : Sw s o (1 / 8) (1 / 64) 0 0 :=
    { same := hs.symm, os := os, oo := oo, fs := ⟨h1.1, h2.1⟩, fo := ⟨h1.2.1, h2.2.1⟩, xs := i1, xo := by rw [x1]; exact i1.neg, vs := i2, vo := by rw [x2]; exact i2.neg,
      gx := by rw [x1]; exact ⟨by grind, by grind⟩, gv := by rw [x2]; exact ⟨by grind, by grind⟩ }
  obtain ⟨s', o', e1, e2, _, k⟩ := sw.step hp (a' := 26635 / 100000) (b' := 14134 / 100000) (B' := 1 / 100) (A' := 2 / 100) (by decide +kernel) (by decide +kernel) (by decide +kernel) (by decide +kernel) (by decide +kernel) (by decide +kernel) (by decide +kernel) (by decide +kernel) (by decide +kernel)
  have n1 := nxt_ok os.1.lt32
  have n2 := nxt_ok oo.1.lt32
  rw [n1.1] at e1
  rw [n2.1] at e2
  cases e1
  cases e2
  -- the same, with opposite words
  obtain ⟨p1, p2, p3, p4, p5, p6⟩ := hp
  obtain ⟨w, v, w1, v1, w2, v2, w3, v3, w4, v4, _⟩ := sine_gap os.1.lt32 oo.1.lt32 h1.1 h1.2.1 (sw.xs.mono (by decide +kernel)) (sw.xo.mono (by decide +kernel)) sw.gx (by decide +kernel)
  have hwv := sinB_spec hsin w1 v1
  have ip : In (R1 s.2.2.1) (1 / 8) := ⟨by grind, p4⟩
  have id' : In (R1 s.2.2.2.1) 1 := ⟨by grind, p6⟩
  have ipw := (ip.mul w4).mono (N := 12567 / 100000) (by decide +kernel)
  have m := ((Ap.self p1).mul (Ap.self w3) ip w4 ipw (by decide +kernel)).mono (f := 12568 / 100000 * u32) (by decide +kernel)
  have hsb := (i2.sub ipw)
  have sb := ((Ap.self h2.1).sub m hsb (by unfold big32 u32; grind)).mono (f := 1 * u32) (by unfold u32; grind)
  have hsd := (id'.mul hsb).mono (N := 1) (by decide +kernel)
  have t := ((sb.mul (Ap.self p2) hsb id' (M := 1) (by rw [show ∀ X Y : Rat, X * Y = Y * X from fun X Y => by grind]; exact hsd) (by unfold big32 u32; grind)))
  have om := Op.mul_r p1 hwv m.1
  have osb := Op.sub h2 om sb.1
  have ot := Op.mul_l p2 osb t.1
  have ofl := Op.flush ot (fmul_okF _ _ _).lt32 (fmul_okF _ _ _).lt32
  obtain ⟨f1, f2, f3⟩ := flush_R (fmul_okF _ _ _) t.1
  have q1 := swing_step w1
  have q2 := swing_step v1
  rw [← hs] at q2
  have g1 : nxt s = _ := Option.some.inj (n1.1.symm.trans q1)
  have g2 : nxt o = _ := Option.some.inj (n2.1.symm.trans q2)
  have hx : In (R1 (nxt s).2.1) (14134 / 100000) := k.vs
  have ha := (i1.add hx)
  rw [g1] at ha
  have tt := (Ap.self h1.1).add (Ap.self f1) ha (by unfold big32; decide +kernel)
  have oa := Op.add h1 ofl tt.1
  have oaf := Op.flush oa (fadd_okF _ _ _).lt32 (fadd_okF _ _ _).lt32
  have r1 : R1 (nxt o).1 = -R1 (nxt s).1 := by rw [g1, g2]; exact oaf.R
  have r2 : R1 (nxt o).2.1 = -R1 (nxt s).2.1 := by rw [g1, g2]; exact ofl.R
  exact { k with gx := by rw [r1]; exact ⟨by grind, by grind⟩, gv := by rw [r2]; exact ⟨by grind, by grind⟩ }

theorem Sw.nxt {s o : dTurn} {a b A B : Rat} (h : Sw s o a b A B) (hp : Pd s) (a' b' A' B' : Rat) (ha : a ≤ 6) (hb : b ≤ 2) (hA : A ≤ 1 / 1000)
    (eb : b + 12571 / 100000 ≤ b') (ea : a + b' + 1 / 1000000 ≤ a') (eB : B + 1 / 8 * (A * (64466 / 10000) + 123 / 1000000000) + 2 * ((b + 1257 / 10000) * (20001 / 10000 * u32) + 1257 / 10000 * u32 + 1 / 1000000000000000000) ≤ B') (eA : A + B' + 2 * (a' * (10001 / 10000 * u32)) ≤ A') (hb' : b' ≤ 2) (ha' : a' ≤ 8) :
    Sw (Fw.nxt s) (Fw.nxt o) a' b' A' B' ∧ Pd (Fw.nxt s) := by
  obtain ⟨s', o', e1, e2, e3, k⟩ := h.step hp ha hb hA eb ea eB eA hb' ha'
  have n1 := nxt_ok h.os.1.lt32
  have n2 := nxt_ok h.oo.1.lt32
  rw [n1.1] at e1
  rw [n2.1] at e2
  cases e1
  cases e2
  refine ⟨k, ?_⟩
  unfold Pd
  rw [n1.2.2]
  exact hp

/-- How far apart the angles are after at most eight steps. -/
def Gp (x y : Nat) : Prop := fin .f32 x ∧ fin .f32 y ∧ okF .f32 x ∧ okF .f32 y ∧ In (R1 x + R1 y) (9 / 100000)
theorem Sw.gp {s o : dTurn} {a b A B : Rat} (h : Sw s o a b A B) (hA : A ≤ 9 / 100000) : Gp s.1 o.1 := ⟨h.fs.1, h.fo.1, h.os.1, h.oo.1, h.gx.mono hA⟩

theorem eight {s o : dTurn} (hs : s.2.2 = o.2.2) (h1 : Op s.1 o.1) (h2 : Op s.2.1 o.2.1) (i1 : In (R1 s.1) (1 / 8)) (i2 : In (R1 s.2.1) (1 / 64)) (os : okB s) (oo : okB o) (hp : Pd s) (hsin : sinB s.1 o.1 = true) :
    ∀ j, j < 8 → Gp (endS (j + 1) s).1 (endS (j + 1) o).1 := by
  have k1 := first_step hs h1 h2 i1 i2 os oo hp hsin
  have q1 : Pd (nxt s) := by unfold Pd; rw [(nxt_ok os.1.lt32).2.2]; exact hp
  obtain ⟨k2, q2⟩ := k1.nxt q1 (53342 / 100000) (26706 / 100000) (170 / 1000000000) (100 / 1000000000) (by decide +kernel) (by decide +kernel) (by decide +kernel) (by decide +kernel) (by decide +kernel) (by decide +kernel) (by decide +kernel) (by decide +kernel) (by decide +kernel)
  obtain ⟨k3, q3⟩ := k2.nxt q2 (92621 / 100000) (39278 / 100000) (650 / 1000000000) (365 / 1000000000) (by decide +kernel) (by decide +kernel) (by decide +kernel) (by decide +kernel) (by decide +kernel) (by decide +kernel) (by decide +kernel) (by decide +kernel) (by decide +kernel)
  obtain ⟨k4, q4⟩ := k3.nxt q3 (144472 / 100000) (51850 / 100000) (1890 / 1000000000) (1055 / 1000000000) (by decide +kernel) (by decide +kernel) (by decide +kernel) (by decide +kernel) (by decide +kernel) (by decide +kernel) (by decide +kernel) (by decide +kernel) (by decide +kernel)
  obtain ⟨k5, q5⟩ := k4.nxt q4 (208895 / 100000) (64422 / 100000) (4960 / 1000000000) (2800 / 1000000000) (by decide +kernel) (by decide +kernel) (by decide +kernel) (by decide +kernel) (by decide +kernel) (by decide +kernel) (by decide +kernel) (by decide +kernel) (by decide +kernel)
  obtain ⟨k6, q6⟩ := k5.nxt q5 (285890 / 100000) (76994 / 100000) (12400 / 1000000000) (7060 / 1000000000) (by decide +kernel) (by decide +kernel) (by decide +kernel) (by decide +kernel) (by decide +kernel) (by decide +kernel) (by decide +kernel) (by decide +kernel) (by decide +kernel)
  obtain ⟨k7, q7⟩ := k6.nxt q6 (375457 / 100000) (89566 / 100000) (30400 / 1000000000) (17400 / 1000000000) (by decide +kernel) (by decide +kernel) (by decide +kernel) (by decide +kernel) (by decide +kernel) (by decide +kernel) (by decide +kernel) (by decide +kernel) (by decide +kernel)
  obtain ⟨k8, q8⟩ := k7.nxt q7 (477596 / 100000) (102138 / 100000) (73800 / 1000000000) (42500 / 1000000000) (by decide +kernel) (by decide +kernel) (by decide +kernel) (by decide +kernel) (by decide +kernel) (by decide +kernel) (by decide +kernel) (by decide +kernel) (by decide +kernel)
  intro j hj
  have : j = 0 ∨ j = 1 ∨ j = 2 ∨ j = 3 ∨ j = 4 ∨ j = 5 ∨ j = 6 ∨ j = 7 := by omega
  rcases this with rfl | rfl | rfl | rfl | rfl | rfl | rfl | rfl
  · exact k1.gp (by decide +kernel)
  · exact k2.gp (by decide +kernel)
  · exact k3.gp (by decide +kernel)
  · exact k4.gp (by decide +kernel)
  · exact k5.gp (by decide +kernel)
  · exact k6.gp (by decide +kernel)
  · exact k7.gp (by decide +kernel)
  · exact k8.gp (by decide +kernel)

/-! ### The law's own test -/
theorem fmax_le {a b : Nat} (fa : fin .f64 a) (fb : fin .f64 b) {M : Rat} (ha : R .f64 a ≤ M) (hb : R .f64 b ≤ M) : fin .f64 (fmax .f64 a b) ∧ R .f64 (fmax .f64 a b) ≤ M := by
  unfold fmax
  rw [order_fin fa fb]
  cases compare (Z .f64 a) (Z .f64 b)
  · exact ⟨fb, hb⟩
  · dsimp only
    cases (FloatKind.f64.decode a).neg
    · exact ⟨fa, ha⟩
    · exact ⟨fb, hb⟩
  · exact ⟨fa, ha⟩

theorem gap_R {a b : Nat} (fa : fin .f64 a) (fb : fin .f64 b) {M : Rat} (h : In (R .f64 a - R .f64 b) M) (hM : M ≤ 1000000000000) : fin .f64 (t_w_r8Gap a b) ∧ R .f64 (t_w_r8Gap a b) ≤ M * (1000001 / 1000000) := by
  have hT : M ≤ w2 (top .f64) := Rat.le_trans hM (by decide +kernel)
  have hM0 : 0 ≤ M := by have := h.1; have := h.2; grind
  have h' : In (R .f64 b - R .f64 a) M := ⟨by have := h.2; grind, by have := h.1; grind⟩
  obtain ⟨s1, s2⟩ := sub_R fa fb h hT
  obtain ⟨s3, s4⟩ := sub_R fb fa h' hT
  rw [un64] at s2 s4
  exact fmax_le s1 s3 (by have := s2.2; have := h.2; grind) (by have := s4.2; have := h'.2; grind)

theorem tol4 : (99999 / 1000000000 : Rat) ≤ R .f64 4547007122018943789 := by decide +kernel

theorem Gp.small {x y : Nat} (h : Gp x y) : fgt .f64 (t_w_r8Gap (fwide x) (fneg .f64 (fwide y))) 4547007122018943789 = false := by
  obtain ⟨f1, f2, o1, o2, g⟩ := h
  obtain ⟨w1, w2⟩ := wide_R o1.lt32 f1
  obtain ⟨v1, v2⟩ := wide_R o2.lt32 f2
  obtain ⟨n1, n2⟩ := fneg_R (fwide_okF o2.lt32) v1
  obtain ⟨h1, h2⟩ := gap_R w1 n1 (M := 9 / 100000) (by rw [w2, n2, v2]; unfold R1 at g; exact ⟨by have := g.1; grind, by have := g.2; grind⟩) (by decide +kernel)
  rw [fgt_R h1 (fin64_dec (by decide +kernel))]
  have := tol4
  exact decide_eq_false (by grind)

end Go.Fw
