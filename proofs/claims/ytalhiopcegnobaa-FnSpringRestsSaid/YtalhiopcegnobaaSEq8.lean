/- FnPendulums: swings that begin on opposite sides. No condition. -/
import Derived.Test.YtalhiopcegnobaaSEq7
set_option linter.unusedVariables false
set_option linter.unusedSimpArgs false
namespace Go.Fw
open Ieee

/-- One step of a swing, as words. -/
theorem swing_step {s : dTurn} {w : Nat} (h : g_i_SineTurns s.1 = some w) : g_i_StepSwing s = some (flush (fadd .f32 s.1 (flush (fmul .f32 (fsub .f32 s.2.1 (fmul .f32 s.2.2.1 w)) s.2.2.2.1))), (flush (fmul .f32 (fsub .f32 s.2.1 (fmul .f32 s.2.2.1 w)) s.2.2.2.1), s.2.2)) := by
  unfold g_i_StepSwing
  rw [h, opt_bind_some, c_i_FlushNumber (fmul_okF _ _ _), opt_bind_some, c_i_FlushNumber (fadd_okF _ _ _), opt_bind_some]

/-- Two swings that are nearly opposite. x, v: angle and speed; a, b: how great; A, B: how far from opposite. -/
structure Sw (s o : dTurn) (a b A B : Rat) : Prop where
  same : o.2.2 = s.2.2
  os : okF .f32 s.1 ∧ okF .f32 s.2.1
  oo : okF .f32 o.1 ∧ okF .f32 o.2.1
  fs : fin .f32 s.1 ∧ fin .f32 s.2.1
  fo : fin .f32 o.1 ∧ fin .f32 o.2.1
  xs : In (R1 s.1) a
  xo : In (R1 o.1) a
  vs : In (R1 s.2.1) b
  vo : In (R1 o.2.1) b
  gx : In (R1 s.1 + R1 o.1) A
  gv : In (R1 s.2.1 + R1 o.2.1) B

/-- Pull and damp. -/
def Pd (s : dTurn) : Prop := fin .f32 s.2.2.1 ∧ fin .f32 s.2.2.2.1 ∧ 0 ≤ R1 s.2.2.1 ∧ R1 s.2.2.1 ≤ 1 / 8 ∧ 0 ≤ R1 s.2.2.2.1 ∧ R1 s.2.2.2.1 ≤ 1

/-- One step's speed. -/
theorem speed_R {p d v w : Nat} {b : Rat} (hp : fin .f32 p) (hd : fin .f32 d) (p0 : 0 ≤ R1 p) (p1 : R1 p ≤ 1 / 8) (d0 : 0 ≤ R1 d) (d1 : R1 d ≤ 1) (hv : fin .f32 v) (hw : fin .f32 w) (iv : In (R1 v) b) (iw : In (R1 w) (10053 / 10000)) (hb : b ≤ 2) :
    Ap (flush (fmul .f32 (fsub .f32 v (fmul .f32 p w)) d)) (R1 d * (R1 v - R1 p * R1 w)) ((b + 1257 / 10000) * (20001 / 10000 * u32) + 1257 / 10000 * u32 + 1 / 1000000000000000000) ∧ okF .f32 (flush (fmul .f32 (fsub .f32 v (fmul .f32 p w)) d)) ∧ In (R1 d * (R1 v - R1 p * R1 w)) (b + 1257 / 10000) := by
  have b0 : 0 ≤ b := by have := iv.1; have := iv.2; grind
  have ip : In (R1 p) (1 / 8) := ⟨by grind, p1⟩
  have id' : In (R1 d) 1 := ⟨by grind, d1⟩
  have ipw := (ip.mul iw).mono (N := 12567 / 100000) (by decide +kernel)
  have m := ((Ap.self hp).mul (Ap.self hw) ip iw ipw (by decide +kernel)).mono (f := 12568 / 100000 * u32) (by decide +kernel)
  have hs := (iv.sub ipw)
  have s := ((Ap.self hv).sub m hs (by unfold big32 u32; grind)).mono (f := 12568 / 100000 * u32 + (b + 1257 / 10000) * u32) (by unfold u32; grind)
  have hsd := (id'.mul hs).mono (N := b + 12567 / 100000) (by grind)
  have t := (s.mul (Ap.self hd) hs id' (M := b + 12567 / 100000) (by rw [show ∀ X Y : Rat, X * Y = Y * X from fun X Y => by grind]; exact hsd) (by unfold big32 u32; grind)).mono (f := (b + 1257 / 10000) * (20001 / 10000 * u32) + 1257 / 10000 * u32 + 1 / 10000000000000000000) (by unfold u32 e32; grind)
  obtain ⟨f1, f2, f3⟩ := flush_R (fmul_okF _ _ _) t.1
  have hc : (R1 v - R1 p * R1 w) * R1 d = R1 d * (R1 v - R1 p * R1 w) := by grind
  refine ⟨⟨f1, ?_⟩, f2, hsd.mono (by grind)⟩
  have h1 := f3.trans t.2
  rw [hc] at h1
  exact h1.mono (by grind)

/-- One step of two swings. -/
theorem Sw.step {s o : dTurn} {a b A B : Rat} (h : Sw s o a b A B) (hp : Pd s) (ha : a ≤ 6) (hb : b ≤ 2) (hA : A ≤ 1 / 1000) {a' b' A' B' : Rat}
    (eb : b + 12571 / 100000 ≤ b') (ea : a + b' + 1 / 1000000 ≤ a') (eB : B + 1 / 8 * (A * (64466 / 10000) + 123 / 1000000000) + 2 * ((b + 1257 / 10000) * (20001 / 10000 * u32) + 1257 / 10000 * u32 + 1 / 1000000000000000000) ≤ B') (eA : A + B' + 2 * (a' * (10001 / 10000 * u32)) ≤ A') (hb' : b' ≤ 2) (ha' : a' ≤ 8) :
    ∃ s' o', g_i_StepSwing s = some s' ∧ g_i_StepSwing o = some o' ∧ s'.2.2 = s.2.2 ∧ Sw s' o' a' b' A' B' := by
  obtain ⟨p1, p2, p3, p4, p5, p6⟩ := hp
  have a0 : 0 ≤ a := by have := h.xs.1; have := h.xs.2; grind
  have b0 : 0 ≤ b := by have := h.vs.1; have := h.vs.2; grind
  obtain ⟨w, v, w1, v1, w2, v2, w3, v3, w4, v4, w5⟩ := sine_gap h.os.1.lt32 h.oo.1.lt32 h.fs.1 h.fo.1 (h.xs.mono (by grind)) (h.xo.mono (by grind)) h.gx hA
  have hs := swing_step w1
  have ho := swing_step v1
  rw [h.same] at ho
  obtain ⟨x1, x2, x3⟩ := speed_R p1 p2 p3 p4 p5 p6 h.fs.2 w3 h.vs w4 hb
  obtain ⟨y1, y2, y3⟩ := speed_R p1 p2 p3 p4 p5 p6 h.fo.2 v3 h.vo v4 hb
  have bs : In (R1 (flush (fmul .f32 (fsub .f32 s.2.1 (fmul .f32 s.2.2.1 w)) s.2.2.2.1))) b' := (x1.inn x3).mono (by unfold u32; grind)
  have bo : In (R1 (flush (fmul .f32 (fsub .f32 o.2.1 (fmul .f32 s.2.2.1 v)) s.2.2.2.1))) b' := (y1.inn y3).mono (by unfold u32; grind)
  have gB : In (R1 (flush (fmul .f32 (fsub .f32 s.2.1 (fmul .f32 s.2.2.1 w)) s.2.2.2.1)) + R1 (flush (fmul .f32 (fsub .f32 o.2.1 (fmul .f32 s.2.2.1 v)) s.2.2.2.1))) B' := by
    have ip : In (R1 s.2.2.1) (1 / 8) := ⟨by grind, p4⟩
    have id' : In (R1 s.2.2.2.1) 1 := ⟨by grind, p6⟩
    have h1 := ip.mul w5
    have h2 := id'.mul (h.gv.sub h1)
    rw [show R1 s.2.2.2.1 * (R1 s.2.1 + R1 o.2.1 - R1 s.2.2.1 * (R1 w + R1 v)) = R1 s.2.2.2.1 * (R1 s.2.1 - R1 s.2.2.1 * R1 w) + R1 s.2.2.2.1 * (R1 o.2.1 - R1 s.2.2.1 * R1 v) by grind] at h2
    have := h2.1; have := h2.2; have := x1.2.1; have := x1.2.2; have := y1.2.1; have := y1.2.2
    unfold R1 at *
    exact ⟨by grind, by grind⟩
  generalize flush (fmul .f32 (fsub .f32 s.2.1 (fmul .f32 s.2.2.1 w)) s.2.2.2.1) = vs' at *
  generalize flush (fmul .f32 (fsub .f32 o.2.1 (fmul .f32 s.2.2.1 v)) s.2.2.2.1) = vo' at *
  -- angles
  have ang : ∀ {x u : Nat}, fin .f32 x → fin .f32 u → In (R1 x) a → In (R1 u) b' → Ap (flush (fadd .f32 x u)) (R1 x + R1 u) (a' * (100005 / 100000 * u32)) ∧ okF .f32 (flush (fadd .f32 x u)) ∧ In (R1 (flush (fadd .f32 x u))) a' := by
    intro x u fx fu ix iu
    have hs := (ix.add iu)
    have t := (Ap.self fx).add (Ap.self fu) hs (by unfold big32; grind)
    obtain ⟨f1, f2, f3⟩ := flush_R (fadd_okF _ _ _) t.1
    have r : Ap (flush (fadd .f32 x u)) (R1 x + R1 u) ((a + b') * u32 + 1 / 1000000000000000000000000000000000000) := ⟨f1, (f3.trans t.2).mono (by grind)⟩
    exact ⟨r.mono (by unfold u32; grind), f2, (r.inn hs).mono (by unfold u32; grind)⟩
  obtain ⟨t1, t2, t3⟩ := ang h.fs.1 x1.1 h.xs bs
  obtain ⟨u1, u2, u3⟩ := ang h.fo.1 y1.1 h.xo bo
  refine ⟨_, _, hs, ho, rfl, ?_⟩
  refine { same := rfl, os := ⟨t2, x2⟩, oo := ⟨u2, y2⟩, fs := ⟨t1.1, x1.1⟩, fo := ⟨u1.1, y1.1⟩, xs := t3, xo := u3, vs := bs, vo := bo, gx := ?_, gv := gB }
  have := t1.2.1; have := t1.2.2; have := u1.2.1; have := u1.2.2; have := h.gx.1; have := h.gx.2; have := gB.1; have := gB.2
  unfold R1 at *
  dsimp only
  exact ⟨by grind, by grind⟩
end Go.Fw
