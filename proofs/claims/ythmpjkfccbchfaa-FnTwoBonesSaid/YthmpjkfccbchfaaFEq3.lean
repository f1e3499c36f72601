/- What is drawn in quarters and halves, as whole numbers. No condition. -/
import Derived.Test.YthmpjkfccbchfaaFEq1
import Derived.Test.YthmpjkfccbchfaaFwE
set_option linter.unusedVariables false
set_option linter.unusedSimpArgs false
namespace Go.Fw

/-- A number of quarters from -4 to 4. -/
def Quart (x : Nat) : Prop := okF .f32 x ∧ ∃ n : Int, Ev x n 2 16 ∧ (n = 0 → x = 0)

theorem fin_dec (k : FloatKind) (x : Nat) : fin k x ↔ Nat.blt (x % k.format.signWeight) k.format.infRung = true := by
  unfold fin; simp
theorem quart_tab : ∀ n : Nat, n < 33 → Nat.blt (fdiv .f32 (fofInt .f32 ((n : Int) - 16)) 1082130432 % FloatKind.f32.format.signWeight) FloatKind.f32.format.infRung = true ∧ Z .f32 (fdiv .f32 (fofInt .f32 ((n : Int) - 16)) 1082130432) = ((n : Int) - 16) * ((2 ^ 147 : Nat) : Int) ∧ (n = 16 → fdiv .f32 (fofInt .f32 ((n : Int) - 16)) 1082130432 = 0) := by decide +kernel
theorem quart_of {n : Nat} (h : n < 33) : Quart (fdiv .f32 (fofInt .f32 ((n : Int) - 16)) 1082130432) := by
  obtain ⟨h1, h2, h3⟩ := quart_tab n h
  exact ⟨fdiv_okF _ _ _, (n : Int) - 16, Ev.ofZ ((fin_dec _ _).2 h1) (by rw [h2]) (by omega) (by omega), fun h0 => h3 (by omega)⟩

theorem rq_DrawSmall {n : Nat} {s : dSrc} (h : okS n s) (hn : n ≤ 4611686018427380000) : Ret (g_s_l01DrawSmall s) fun y => Quart y.1 ∧ okS (n + 2) y.2.1 := by
  unfold g_s_l01DrawSmall
  refine Ret.bind ((rt_pick 33 h hn (by omega)).mono fun y hy => Ret.pure ⟨?_, hy.2⟩)
  obtain ⟨k, hk⟩ := Int.eq_ofNat_of_zero_le hy.1.1
  have := hy.1.2
  rw [hk] at this
  dsimp only
  rw [hk, isub_ok (by omega) (by omega)]
  exact quart_of (by omega)

def QV (v : dVec) : Prop := Quart v.1 ∧ Quart v.2.1 ∧ Quart v.2.2.1
theorem rq_R8Small {code : List Int} (h : ∀ x ∈ code, 0 ≤ x ∧ x ≤ 255) (hl : code.length ≤ 4294967296) : Ret (g_s_R8Small code) QV := by
  unfold g_s_R8Small
  refine Ret.bind ((rq_DrawSmall (okS_from h hl) (by omega)).mono fun y hy => Ret.bind ((rq_DrawSmall hy.2 (by omega)).mono fun z hz => Ret.bind ((rq_DrawSmall hz.2 (by omega)).mono fun u hu => Ret.pure ⟨hy.1, hz.1, hu.1⟩)))

/-! ### turns with halves -/
/-- Turns whose numbers are whole numbers at a place. -/
def TE (t : dTurn) (w x y z : Int) (d N : Nat) : Prop := Ev t.1 w d N ∧ Ev t.2.1 x d N ∧ Ev t.2.2.1 y d N ∧ Ev t.2.2.2.1 z d N
def VE (v : dVec) (x y z : Int) (d N : Nat) : Prop := Ev v.1 x d N ∧ Ev v.2.1 y d N ∧ Ev v.2.2.1 z d N

/-! ### vectors and turns, exactly -/
theorem TE.mul {a b : dTurn} {aw ax ay az bw bx bz b_ : Int} {d e N M : Nat} (ha : TE a aw ax ay az d N) (hb : TE b bw bx b_ bz e M) (hN : N * M + N * M + N * M + N * M < 16777216) (hd : d + e ≤ 149) :
    TE (t_i_MulTurns a b) (aw * bw - ax * bx - ay * b_ - az * bz) (aw * bx + ax * bw + ay * bz - az * b_) (aw * b_ - ax * bz + ay * bw + az * bx) (aw * bz + ax * b_ - ay * bx + az * bw) (d + e) (N * M + N * M + N * M + N * M) := by
  obtain ⟨a1, a2, a3, a4⟩ := ha
  obtain ⟨b1, b2, b3, b4⟩ := hb
  have h1 : N * M < 16777216 := by omega
  have h2 : N * M + N * M < 16777216 := by omega
  have h3 : N * M + N * M + N * M < 16777216 := by omega
  exact ⟨(((a1.mul b1 h1 hd).sub (a2.mul b2 h1 hd) h2 hd).sub (a3.mul b3 h1 hd) h3 hd).sub (a4.mul b4 h1 hd) hN hd,
    (((a1.mul b2 h1 hd).add (a2.mul b1 h1 hd) h2 hd).add (a3.mul b4 h1 hd) h3 hd).sub (a4.mul b3 h1 hd) hN hd,
    (((a1.mul b3 h1 hd).sub (a2.mul b4 h1 hd) h2 hd).add (a3.mul b1 h1 hd) h3 hd).add (a4.mul b2 h1 hd) hN hd,
    (((a1.mul b4 h1 hd).add (a2.mul b3 h1 hd) h2 hd).sub (a3.mul b2 h1 hd) h3 hd).add (a4.mul b1 h1 hd) hN hd⟩

theorem VE.cross {a b : dVec} {ax ay az bx b_ bz : Int} {d e N M : Nat} (ha : VE a ax ay az d N) (hb : VE b bx b_ bz e M) (hN : N * M + N * M < 16777216) (hd : d + e ≤ 149) :
    VE (t_i_CrossOf a b) (ay * bz - az * b_) (az * bx - ax * bz) (ax * b_ - ay * bx) (d + e) (N * M + N * M) := by
  obtain ⟨a1, a2, a3⟩ := ha
  obtain ⟨b1, b2, b3⟩ := hb
  have h1 : N * M < 16777216 := by omega
  exact ⟨(a2.mul b3 h1 hd).sub (a3.mul b2 h1 hd) hN hd, (a3.mul b1 h1 hd).sub (a1.mul b3 h1 hd) hN hd, (a1.mul b2 h1 hd).sub (a2.mul b1 h1 hd) hN hd⟩
theorem VE.scale {a : dVec} {ax ay az n : Int} {s d e N M : Nat} (ha : VE a ax ay az d N) (hs : Ev s n e M) (hN : N * M < 16777216) (hd : d + e ≤ 149) : VE (t_i_ScaleVector a s) (ax * n) (ay * n) (az * n) (d + e) (N * M) :=
  ⟨ha.1.mul hs hN hd, ha.2.1.mul hs hN hd, ha.2.2.mul hs hN hd⟩
theorem VE.add {a b : dVec} {ax ay az bx b_ bz : Int} {d N M : Nat} (ha : VE a ax ay az d N) (hb : VE b bx b_ bz d M) (hN : N + M < 16777216) (hd : d ≤ 149) : VE (t_i_AddVectors a b) (ax + bx) (ay + b_) (az + bz) d (N + M) :=
  ⟨ha.1.add hb.1 hN hd, ha.2.1.add hb.2.1 hN hd, ha.2.2.add hb.2.2 hN hd⟩
theorem VE.up {a : dVec} {ax ay az : Int} {d N : Nat} (k : Nat) (ha : VE a ax ay az d N) : VE a (ax * ((2 ^ k : Nat) : Int)) (ay * ((2 ^ k : Nat) : Int)) (az * ((2 ^ k : Nat) : Int)) (d + k) (N * 2 ^ k) := ⟨ha.1.up k, ha.2.1.up k, ha.2.2.up k⟩
theorem one_Ev : Ev 1065353216 1 0 1 := Ev.ofZ ((fin_dec _ _).2 (by decide +kernel)) (by decide +kernel) (by omega) (by omega)
end Go.Fw
