/- FnPendulums: the eight steps, and the law. No condition. -/
import Derived.Test.YtalhiopcegnobaaSEq9
set_option linter.unusedVariables false
set_option linter.unusedSimpArgs false
namespace Go.Fw
open Ieee

/-- The first step keeps opposite words opposite. -/
theorem first_step {s o : dTurn} (hs : s.2.2 = o.2.2) (h1 : Op s.1 o.1) (h2 : Op s.2.1 o.2.1) (i1 : In (R1 s.1) (1 / 8)) (i2 : In (R1 s.2.1) (1 / 64)) (os : okB s) (oo : okB o) (hp : Pd s) (hsin : sinB s.1 o.1 = true) :
    Sw (nxt s) (nxt o) (26635 / 100000) (14134 / 100000) 0 0 := by
  have x1 := h1.R
  have x2 := h2.R
  have sw : Sw s o (1 / 8) (1 / 64) 0 0 :=
    { same := hs.symm, os := os, oo := oo, fs := ⟨h1.1, h2.1⟩, fo := ⟨h1.2.1, h2.2.1⟩, xs := i1, xo := by rw [x1]; exact i1.neg, vs := i2, vo := by rw [x2]; exact i2.neg,
      gx := by rw [x1]; exact ⟨by grind, by grind⟩, gv := by rw [x2]; exact ⟨by grind, by grind⟩ }
  obtain ⟨s', o', e1, e2, _, k⟩ := sw.step hp (a' := 26635 / 100000) (b' := 14134 / 100000) (B' := 1 / 100) (A' := 2 / 100) (by decide +kernel) (by decide +kernel) (by decide +kernel) (by decide +kernel) (by decide +kernel) (by decide +kernel) (by decide +kernel) (by decide +kernel) (by decide +kernel)
  have n1 := nxt_ok os.1.lt32
  have n2 := nxt_ok oo.1.lt32
  rw [n1.1] at e1
  rw [n2.1] at e2
  cases e1
  cases e2
  -- the same, with opposite words
  obtain ⟨p1, p2, p3, p4, p5, p6⟩ := hp
  obtain ⟨w, v, w1, v1, w2, v2, w3, v3, w4, v4, _⟩ := sine_gap os.1.lt32 oo.1.lt32 h1.1 h1.2.1 (sw.xs.mono (by decide +kernel)) (sw.xo.mono (by decide +kernel)) sw.gx (by decide +kernel)
  have hwv := sinB_spec hsin w1 v1
  have ip : In (R1 s.2.2.1) (1 / 8) := ⟨by grind, p4⟩
  have id' : In (R1 s.2.2.2.1) 1 := ⟨by grind, p6⟩
  have ipw := (ip.mul w4).mono (N := 12567 / 100000) (by decide +kernel)
  have m := ((Ap.self p1).mul (Ap.self w3) ip w4 ipw (by decide +kernel)).mono (f := 12568 / 100000 * u32) (by decide +kernel)
  have hsb := (i2.sub ipw)
  have sb := ((Ap.self h2.1).sub m hsb (by unfold big32 u32; grind)).mono (f := 1 * u32) (by unfold u32; grind)
  have hsd := (id'.mul hsb).mono (N := 1) (by decide +kernel)
  have t := ((sb.mul (Ap.self p2) hsb id' (M := 1) (by rw [show ∀ X Y : Rat, X * Y = Y * X from fun X Y => by grind]; exact hsd) (by unfold big32 u32; grind)))
  have om := Op.mul_r p1 hwv m.1
  have osb := Op.sub h2 om sb.1
  have ot := Op.mul_l p2 osb t.1
  have ofl := Op.flush ot (fmul_okF _ _ _).lt32 (fmul_okF _ _ _).lt32
  obtain ⟨f1, f2, f3⟩ := flush_R (fmul_okF _ _ _) t.1
  have q1 := swing_step w1
  have q2 := swing_step v1
  rw [← hs] at q2
  have g1 : nxt s = _ := Option.some.inj (n1.1.symm.trans q1)
  have g2 : nxt o = _ := Option.some.inj (n2.1.symm.trans q2)
  have hx : In (R1 (nxt s).2.1) (14134 / 100000) := k.vs
  have ha := (i1.add hx)
  rw [g1] at ha
  have tt := (Ap.self h1.1).add (Ap.self f1) ha (by unfold big32; decide +kernel)
  have oa := Op.add h1 ofl tt.1
  have oaf := Op.flush oa (fadd_okF _ _ _).lt32 (fadd_okF _ _ _).lt32
  have r1 : R1 (nxt o).1 = -R1 (nxt s).1 := by rw [g1, g2]; exact oaf.R
  have r2 : R1 (nxt o).2.1 = -R1 (nxt s).2.1 := by rw [g1, g2]; exact ofl.R
  exact { k with gx := by rw [r1]; exact ⟨by grind, by grind⟩, gv := by rw [r2]; exact ⟨by grind, by grind⟩ }

theorem Sw.nxt {s o : dTurn} {a b A B : Rat} (h : Sw s o a b A B) (hp : Pd s) (a' b' A' B' : Rat) (ha : a ≤ 6) (hb : b ≤ 2) (hA : A ≤ 1 / 1000)
    (eb : b + 12571 / 100000 ≤ b') (ea : a + b' + 1 / 1000000 ≤ a') (eB : B + 1 / 8 * (A * (64466 / 10000) + 123 / 1000000000) + 2 * ((b + 1257 / 10000) * (20001 / 10000 * u32) + 1257 / 10000 * u32 + 1 / 1000000000000000000) ≤ B') (eA : A + B' + 2 * (a' * (10001 / 10000 * u32)) ≤ A') (hb' : b' ≤ 2) (ha' : a' ≤ 8) :
    Sw (Fw.nxt s) (Fw.nxt o) a' b' A' B' ∧ Pd (Fw.nxt s) := by
  obtain ⟨s', o', e1, e2, e3, k⟩ := h.step hp ha hb hA eb ea eB eA hb' ha'
  have n1 := nxt_ok h.os.1.lt32
  have n2 := nxt_ok h.oo.1.lt32
  rw [n1.1] at e1
  rw [n2.1] at e2
  cases e1
  cases e2
  refine ⟨k, ?_⟩
  unfold Pd
  rw [n1.2.2]
  exact hp

/-- How far apart the angles are after at most eight steps. -/
def Gp (x y : Nat) : Prop := fin .f32 x ∧ fin .f32 y ∧ okF .f32 x ∧ okF .f32 y ∧ In (R1 x + R1 y) (9 / 100000)
theorem Sw.gp {s o : dTurn} {a b A B : Rat} (h : Sw s o a b A B) (hA : A ≤ 9 / 100000) : Gp s.1 o.1 := ⟨h.fs.1, h.fo.1, h.os.1, h.oo.1, h.gx.mono hA⟩

theorem eight {s o : dTurn} (hs : s.2.2 = o.2.2) (h1 : Op s.1 o.1) (h2 : Op s.2.1 o.2.1) (i1 : In (R1 s.1) (1 / 8)) (i2 : In (R1 s.2.1) (1 / 64)) (os : okB s) (oo : okB o) (hp : Pd s) (hsin : sinB s.1 o.1 = true) :
    ∀ j, j < 8 → Gp (endS (j + 1) s).1 (endS (j + 1) o).1 := by
  have k1 := first_step hs h1 h2 i1 i2 os oo hp hsin
  have q1 : Pd (nxt s) := by unfold Pd; rw [(nxt_ok os.1.lt32).2.2]; exact hp
  obtain ⟨k2, q2⟩ := k1.nxt q1 (53342 / 100000) (26706 / 100000) (170 / 1000000000) (100 / 1000000000) (by decide +kernel) (by decide +kernel) (by decide +kernel) (by decide +kernel) (by decide +kernel) (by decide +kernel) (by decide +kernel) (by decide +kernel) (by decide +kernel)
  obtain ⟨k3, q3⟩ := k2.nxt q2 (92621 / 100000) (39278 / 100000) (650 / 1000000000) (365 / 1000000000) (by decide +kernel) (by decide +kernel) (by decide +kernel) (by decide +kernel) (by decide +kernel) (by decide +kernel) (by decide +kernel) (by decide +kernel) (by decide +kernel)
  obtain ⟨k4, q4⟩ := k3.nxt q3 (144472 / 100000) (51850 / 100000) (1890 / 1000000000) (1055 / 1000000000) (by decide +kernel) (by decide +kernel) (by decide +kernel) (by decide +kernel) (by decide +kernel) (by decide +kernel) (by decide +kernel) (by decide +kernel) (by decide +kernel)
  obtain ⟨k5, q5⟩ := k4.nxt q4 (208895 / 100000) (64422 / 100000) (4960 / 1000000000) (2800 / 1000000000) (by decide +kernel) (by decide +kernel) (by decide +kernel) (by decide +kernel) (by decide +kernel) (by decide +kernel) (by decide +kernel) (by decide +kernel) (by decide +kernel)
  obtain ⟨k6, q6⟩ := k5.nxt q5 (285890 / 100000) (76994 / 100000) (12400 / 1000000000) (7060 / 1000000000) (by decide +kernel) (by decide +kernel) (by decide +kernel) (by decide +kernel) (by decide +kernel) (by decide +kernel) (by decide +kernel) (by decide +kernel) (by decide +kernel)
  obtain ⟨k7, q7⟩ := k6.nxt q6 (375457 / 100000) (89566 / 100000) (30400 / 1000000000) (17400 / 1000000000) (by decide +kernel) (by decide +kernel) (by decide +kernel) (by decide +kernel) (by decide +kernel) (by decide +kernel) (by decide +kernel) (by decide +kernel) (by decide +kernel)
  obtain ⟨k8, q8⟩ := k7.nxt q7 (477596 / 100000) (102138 / 100000) (73800 / 1000000000) (42500 / 1000000000) (by decide +kernel) (by decide +kernel) (by decide +kernel) (by decide +kernel) (by decide +kernel) (by decide +kernel) (by decide +kernel) (by decide +kernel) (by decide +kernel)
  intro j hj
  have : j = 0 ∨ j = 1 ∨ j = 2 ∨ j = 3 ∨ j = 4 ∨ j = 5 ∨ j = 6 ∨ j = 7 := by omega
  rcases this with rfl | rfl | rfl | rfl | rfl | rfl | rfl | rfl
  · exact k1.gp (by decide +kernel)
  · exact k2.gp (by decide +kernel)
  · exact k3.gp (by decide +kernel)
  · exact k4.gp (by decide +kernel)
  · exact k5.gp (by decide +kernel)
  · exact k6.gp (by decide +kernel)
  · exact k7.gp (by decide +kernel)
  · exact k8.gp (by decide +kernel)

/-! ### The law's own test -/
theorem fmax_le {a b : Nat} (fa : fin .f64 a) (fb : fin .f64 b) {M : Rat} (ha : R .f64 a ≤ M) (hb : R .f64 b ≤ M) : fin .f64 (fmax .f64 a b) ∧ R .f64 (fmax .f64 a b) ≤ M := by
  unfold fmax
  rw [order_fin fa fb]
  cases compare (Z .f64 a) (Z .f64 b)
  · exact ⟨fb, hb⟩
  · dsimp only
    cases (FloatKind.f64.decode a).neg
    · exact ⟨fa, ha⟩
    · exact ⟨fb, hb⟩
  · exact ⟨fa, ha⟩

theorem gap_R {a b : Nat} (fa : fin .f64 a) (fb : fin .f64 b) {M : Rat} (h : In (R .f64 a - R .f64 b) M) (hM : M ≤ 1000000000000) : fin .f64 (t_w_r8Gap a b) ∧ R .f64 (t_w_r8Gap a b) ≤ M * (1000001 / 1000000) := by
  have hT : M ≤ w2 (top .f64) := Rat.le_trans hM (by decide +kernel)
  have hM0 : 0 ≤ M := by have := h.1; have := h.2; grind
  have h' : In (R .f64 b - R .f64 a) M := ⟨by have := h.2; grind, by have := h.1; grind⟩
  obtain ⟨s1, s2⟩ := sub_R fa fb h hT
  obtain ⟨s3, s4⟩ := sub_R fb fa h' hT
  rw [un64] at s2 s4
  exact fmax_le s1 s3 (by have := s2.2; have := h.2; grind) (by have := s4.2; have := h'.2; grind)

theorem tol4 : (99999 / 1000000000 : Rat) ≤ R .f64 4547007122018943789 := by decide +kernel

theorem Gp.small {x y : Nat} (h : Gp x y) : fgt .f64 (t_w_r8Gap (fwide x) (fneg .f64 (fwide y))) 4547007122018943789 = false := by
  obtain ⟨f1, f2, o1, o2, g⟩ := h
  obtain ⟨w1, w2⟩ := wide_R o1.lt32 f1
  obtain ⟨v1, v2⟩ := wide_R o2.lt32 f2
  obtain ⟨n1, n2⟩ := fneg_R (fwide_okF o2.lt32) v1
  obtain ⟨h1, h2⟩ := gap_R w1 n1 (M := 9 / 100000) (by rw [w2, n2, v2]; unfold R1 at g; exact ⟨by have := g.1; grind, by have := g.2; grind⟩) (by decide +kernel)
  rw [fgt_R h1 (fin64_dec (by decide +kernel))]
  have := tol4
  exact decide_eq_false (by grind)

theorem pend_loop (n : Nat) (hn : n ≤ 8) (b0 : dTurn) (l r : List Nat) (hl : l.length = n) (hr : r.length = n) (h : ∀ j, j < n → Gp (l.getD j 0) (r.getD j 0)) : ∀ (k i N : Nat), i + k = n → k < N →
    iter L_w_FnPendulums_1 N ((false, ((n : Int), ((i : Int), ()))), ((b0, ()), (l, (r, ())))) = some (false, ((false, ()), ((b0, ()), ())))
  | 0, i, N, hi, hN => by
    obtain _ | N := N
    · omega
    rw [iter_succ, show i = n by omega]
    simp only [L_w_FnPendulums_1, ilt_self, cond_f]
  | k + 1, i, N, hi, hN => by
    obtain _ | N := N
    · omega
    rw [iter_succ]
    simp only [L_w_FnPendulums_1]
    rw [ilt_nat (by omega), ix_nat (show i < l.length by omega), ix_nat (show i < r.length by omega), iadd_nat (by omega), cond_t, opt_bind_some, opt_bind_some, (h i (by omega)).small, cond_f]
    exact pend_loop n hn b0 l r hl hr h k (i + 1) N (by omega) (by omega)

def restB (i j : Nat) : Bool := match g_i_StepSwing (0, (0, (pulW i, (dmpW j, ())))) with
  | some y => feq .f32 y.1 0 && feq .f32 y.2.1 0
  | none => false
theorem restB_all : ∀ i, i < 9 → ∀ j, j < 9 → restB i j = true := by decide +kernel

theorem v_FnPendulums (code more : List Int) (hok : okPs [.ro false (.slice (.int .u8)), .ro false (.slice (.int .u8))] (code, more, ())) : g_w_FnPendulums code more = some true := by
  have hc : ∀ x ∈ code, 0 ≤ x ∧ x ≤ 255 := fun x hx => hok.1.2 x hx
  have hm : ∀ x ∈ more, 0 ≤ x ∧ x ≤ 255 := fun x hx => hok.2.1.2 x hx
  unfold g_w_FnPendulums
  cases hL : t_w_r8Long code more
  rotate_left
  · rfl
  obtain ⟨y1, e1, a1, b1⟩ := rt_r8At (code := code) 0 17 hc (by omega)
  obtain ⟨y2, e2, a2, b2⟩ := rt_r8At (code := code) 1 9 hc (by omega)
  obtain ⟨y3, e3, a3, b3⟩ := rt_r8At (code := code) 2 9 hc (by omega)
  obtain ⟨y4, e4, a4, b4⟩ := rt_r8At (code := code) 3 9 hc (by omega)
  obtain ⟨y7, e7, a7, b7⟩ := rt_r8At (code := more) 0 9 hm (by omega)
  obtain ⟨i1, rfl⟩ := Int.eq_ofNat_of_zero_le a1
  obtain ⟨i2, rfl⟩ := Int.eq_ofNat_of_zero_le a2
  obtain ⟨i3, rfl⟩ := Int.eq_ofNat_of_zero_le a3
  obtain ⟨i4, rfl⟩ := Int.eq_ofNat_of_zero_le a4
  obtain ⟨n, rfl⟩ := Int.eq_ofNat_of_zero_le a7
  obtain ⟨y8, e8, a8, b8⟩ := rt_r8At (code := more) 1 (n + 1) hm (by omega)
  obtain ⟨m, rfl⟩ := Int.eq_ofNat_of_zero_le a8
  rw [show ((0 : Nat) : Int) = 0 from rfl] at e1 e7
  rw [show ((1 : Nat) : Int) = 1 from rfl] at e2 e8
  rw [show ((2 : Nat) : Int) = 2 from rfl] at e3
  rw [show ((3 : Nat) : Int) = 3 from rfl] at e4
  rw [show ((17 : Nat) : Int) = 17 from rfl] at e1
  rw [show ((9 : Nat) : Int) = 9 from rfl] at e2 e3 e4 e7
  rw [show ((n + 1 : Nat) : Int) = (n : Int) + 1 from rfl] at e8
  obtain ⟨d, rfl⟩ : ∃ d, n = m + d := ⟨n - m, by omega⟩
  rw [cond_f, e1, opt_bind_some, e2, opt_bind_some, e3, opt_bind_some, e4, opt_bind_some, e7, opt_bind_some, iadd_ok (a := ((m + d : Nat) : Int)) (by omega) (by omega), e8, opt_bind_some]
  rw [isub_ok (a := (i1 : Int)) (by omega) (by omega), isub_ok (a := (i2 : Int)) (by omega) (by omega), iadd_ok (a := 8) (by omega) (by omega), isub_ok (a := ((m + d : Nat) : Int)) (by omega) (by omega)]
  rw [show ((m + d : Nat) : Int) - (m : Int) = (d : Int) by omega]
  obtain ⟨u1, u2, u3⟩ := angB_spec (n := i1) (by omega)
  obtain ⟨v1, v2⟩ := spdB_spec (n := i2) (by omega)
  obtain ⟨p1, p2, p3⟩ := oneB_spec (pulB_all i3 (by omega))
  obtain ⟨d1, d2, d3⟩ := oneB_spec (dmpB_all i4 (by omega))
  have hr := restB_all i3 (by omega) i4 (by omega)
  unfold restB at hr
  unfold angW at u1 u2 u3
  unfold spdW at v1 v2
  unfold pulW at p1 p2 p3 hr
  unfold dmpW at d1 d2 d3 hr
  have oa : okF .f32 (fdiv .f32 (fofInt .f32 ((i1 : Int) - 8)) 1115684864) := fdiv_okF _ _ _
  have ob : okF .f32 (fdiv .f32 (fofInt .f32 ((i2 : Int) - 4)) 1132462080) := fdiv_okF _ _ _
  have oc : okF .f32 (fneg .f32 (fdiv .f32 (fofInt .f32 ((i1 : Int) - 8)) 1115684864)) := fneg_okF _ oa
  have od : okF .f32 (fneg .f32 (fdiv .f32 (fofInt .f32 ((i2 : Int) - 4)) 1132462080)) := fneg_okF _ ob
  generalize fneg .f32 (fdiv .f32 (fofInt .f32 ((i1 : Int) - 8)) 1115684864) = xo at *
  generalize fdiv .f32 (fofInt .f32 ((i1 : Int) - 8)) 1115684864 = xs at *
  generalize fneg .f32 (fdiv .f32 (fofInt .f32 ((i2 : Int) - 4)) 1132462080) = vo at *
  generalize fdiv .f32 (fofInt .f32 ((i2 : Int) - 4)) 1132462080 = vs at *
  generalize fdiv .f32 (fofInt .f32 (i3 : Int)) 1115684864 = p at *
  generalize fdiv .f32 (fofInt .f32 (8 + (i4 : Int))) 1098907648 = q at *
  have os : okB (xs, (vs, (p, (q, ())))) := ⟨oa, ob⟩
  have oo : okB (xo, (vo, (p, (q, ())))) := ⟨oc, od⟩
  have h8 := eight (s := (xs, (vs, (p, (q, ()))))) (o := (xo, (vo, (p, (q, ()))))) rfl u1 v1 u2 v2 os oo ⟨p1, d1, p2, p3, d2, d3⟩ u3
  rw [c_i_RunSwing os (show m + d ≤ 1000 by omega), opt_bind_some, c_i_RunSwing oo (show m + d ≤ 1000 by omega), opt_bind_some, c_i_RunSwing os (show m ≤ 1000 by omega), opt_bind_some]
  dsimp only
  rw [c_i_RunSwing (endS_okB m os) (show d ≤ 1000 by omega), opt_bind_some]
  dsimp only
  rw [bnot_t, cond_f, cond_f, cond_f, cond_f, listS_len, listS_len, listS_len, ieq_self, bnot_t, cond_f, cond_f, ble_t (by omega), cond_t, List.nil_append, listS_len, listS_len, ble_t (by omega), cond_t, ← listS_add, ← endS_add]
  rw [c_r8Same_self (listS_okF _ os) (by rw [listS_len]; omega), opt_bind_some, bnot_t, cond_f, c_same_self (endS_okB _ os).2, opt_bind_some, bnot_t, cond_f]
  have hloop := pend_loop (m + d) (by omega) (xs, (vs, (p, (q, ())))) _ _ (listS_len (m + d) (xs, (vs, (p, (q, ()))))) (listS_len (m + d) (xo, (vo, (p, (q, ()))))) (fun j hj => by rw [listS_get _ _ _ hj, listS_get _ _ _ hj]; exact h8 j (by omega)) (m + d) 0 fuel (by omega) (by unfold fuel; omega)
  rw [show ((0 : Nat) : Int) = 0 from rfl] at hloop
  rw [hloop, opt_bind_some, cond_f]
  cases hy : g_i_StepSwing (0, (0, (p, (q, ())))) with
  | none => rw [hy] at hr; cases hr
  | some y =>
    rw [hy] at hr
    dsimp only at hr
    rw [Bool.and_eq_true] at hr
    rw [opt_bind_some, hr.1, hr.2]; rfl
end Go.Fw
