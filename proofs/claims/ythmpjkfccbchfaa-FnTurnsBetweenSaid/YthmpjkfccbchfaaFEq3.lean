/- What is drawn in quarters and halves, as whole numbers. No condition. -/
import Derived.Test.YthmpjkfccbchfaaFEq1
import Derived.Test.YthmpjkfccbchfaaFwE
set_option linter.unusedVariables false
set_option linter.unusedSimpArgs false
namespace Go.Fw

/-- A number of quarters from -4 to 4. -/
def Quart (x : Nat) : Prop := okF .f32 x ∧ ∃ n : Int, Ev x n 2 16 ∧ (n = 0 → x = 0)

theorem fin_dec (k : FloatKind) (x : Nat) : fin k x ↔ Nat.blt (x % k.format.signWeight) k.format.infRung = true := by
  unfold fin; simp
theorem quart_tab : ∀ n : Nat, n < 33 → Nat.blt (fdiv .f32 (fofInt .f32 ((n : Int) - 16)) 1082130432 % FloatKind.f32.format.signWeight) FloatKind.f32.format.infRung = true ∧ Z .f32 (fdiv .f32 (fofInt .f32 ((n : Int) - 16)) 1082130432) = ((n : Int) - 16) * ((2 ^ 147 : Nat) : Int) ∧ (n = 16 → fdiv .f32 (fofInt .f32 ((n : Int) - 16)) 1082130432 = 0) := by decide +kernel
theorem quart_of {n : Nat} (h : n < 33) : Quart (fdiv .f32 (fofInt .f32 ((n : Int) - 16)) 1082130432) := by
  obtain ⟨h1, h2, h3⟩ := quart_tab n h
  exact ⟨fdiv_okF _ _ _, (n : Int) - 16, Ev.ofZ ((fin_dec _ _).2 h1) (by rw [h2]) (by omega) (by omega), fun h0 => h3 (by omega)⟩

theorem rq_DrawSmall {n : Nat} {s : dSrc} (h : okS n s) (hn : n ≤ 4611686018427380000) : Ret (g_s_l01DrawSmall s) fun y => Quart y.1 ∧ okS (n + 2) y.2.1 := by
  unfold g_s_l01DrawSmall
  refine Ret.bind ((rt_pick 33 h hn (by omega)).mono fun y hy => Ret.pure ⟨?_, hy.2⟩)
  obtain ⟨k, hk⟩ := Int.eq_ofNat_of_zero_le hy.1.1
  have := hy.1.2
  rw [hk] at this
  dsimp only
  rw [hk, isub_ok (by omega) (by omega)]
  exact quart_of (by omega)

def QV (v : dVec) : Prop := Quart v.1 ∧ Quart v.2.1 ∧ Quart v.2.2.1
theorem rq_R8Small {code : List Int} (h : ∀ x ∈ code, 0 ≤ x ∧ x ≤ 255) (hl : code.length ≤ 4294967296) : Ret (g_s_R8Small code) QV := by
  unfold g_s_R8Small
  refine Ret.bind ((rq_DrawSmall (okS_from h hl) (by omega)).mono fun y hy => Ret.bind ((rq_DrawSmall hy.2 (by omega)).mono fun z hz => Ret.bind ((rq_DrawSmall hz.2 (by omega)).mono fun u hu => Ret.pure ⟨hy.1, hz.1, hu.1⟩)))

/-! ### turns with halves -/
def half (x : Nat) : Option Int := bif Nat.beq x 0 then some 0 else bif Nat.beq x 1065353216 then some 2 else bif Nat.beq x 3212836864 then some (-2) else bif Nat.beq x 1056964608 then some 1 else bif Nat.beq x 3204448256 then some (-1) else none

theorem half_Ev {x : Nat} {n : Int} (h : half x = some n) : okF .f32 x ∧ Ev x n 1 2 := by
  have key : ∀ (c : Nat) (m : Int), x = c → (c < 2 ^ 32 ∧ isNan .f32 c = false ∧ Nat.blt (c % FloatKind.f32.format.signWeight) FloatKind.f32.format.infRung = true ∧ Z .f32 c = m * ((2 ^ 148 : Nat) : Int) ∧ m.natAbs ≤ 2) → n = m → okF .f32 x ∧ Ev x n 1 2 := by
    rintro c m rfl ⟨h1, h2, h3, h4, h5⟩ rfl
    exact ⟨.of_num h1 h2, Ev.ofZ ((fin_dec _ _).2 h3) h4 (by omega) h5⟩
  unfold half at h
  cases e : Nat.beq x 0 <;> rw [e] at h
  · cases e1 : Nat.beq x 1065353216 <;> rw [e1] at h
    · cases e2 : Nat.beq x 3212836864 <;> rw [e2] at h
      · cases e3 : Nat.beq x 1056964608 <;> rw [e3] at h
        · cases e4 : Nat.beq x 3204448256 <;> rw [e4] at h
          · cases h
          · cases h; exact key 3204448256 (-1) (Nat.eq_of_beq_eq_true e4) (by decide +kernel) rfl
        · cases h; exact key 1056964608 1 (Nat.eq_of_beq_eq_true e3) (by decide +kernel) rfl
      · cases h; exact key 3212836864 (-2) (Nat.eq_of_beq_eq_true e2) (by decide +kernel) rfl
    · cases h; exact key 1065353216 2 (Nat.eq_of_beq_eq_true e1) (by decide +kernel) rfl
  · cases h; exact key 0 0 (Nat.eq_of_beq_eq_true e) (by decide +kernel) rfl

/-- A turn of the length 1 with halves: what can be looked up. -/
def exB (t : dTurn) : Bool := match half t.1, half t.2.1, half t.2.2.1, half t.2.2.2.1 with
  | some w, some x, some y, some z => decide (w * w + x * x + y * y + z * z = 4) && (match g_i_MendTurn t with
    | some m => feq .f32 m.1 t.1 && (feq .f32 m.2.1 t.2.1 && (feq .f32 m.2.2.1 t.2.2.1 && (feq .f32 m.2.2.2.1 t.2.2.2.1 && true)))
    | none => false)
  | _, _, _, _ => false

/-- Turns whose numbers are whole numbers at a place. -/
def TE (t : dTurn) (w x y z : Int) (d N : Nat) : Prop := Ev t.1 w d N ∧ Ev t.2.1 x d N ∧ Ev t.2.2.1 y d N ∧ Ev t.2.2.2.1 z d N
def VE (v : dVec) (x y z : Int) (d N : Nat) : Prop := Ev v.1 x d N ∧ Ev v.2.1 y d N ∧ Ev v.2.2.1 z d N

theorem exB_spec {t : dTurn} (h : exB t = true) : okT t ∧ (∃ w x y z : Int, TE t w x y z 1 2 ∧ w * w + x * x + y * y + z * z = 4) ∧ ∃ m, g_i_MendTurn t = some m ∧ (feq .f32 m.1 t.1 && (feq .f32 m.2.1 t.2.1 && (feq .f32 m.2.2.1 t.2.2.1 && (feq .f32 m.2.2.2.1 t.2.2.2.1 && true)))) = true := by
  unfold exB at h
  split at h
  · rename_i w x y z h1 h2 h3 h4
    rw [Bool.and_eq_true, decide_eq_true_eq] at h
    obtain ⟨h5, h6⟩ := h
    obtain ⟨o1, e1⟩ := half_Ev h1
    obtain ⟨o2, e2⟩ := half_Ev h2
    obtain ⟨o3, e3⟩ := half_Ev h3
    obtain ⟨o4, e4⟩ := half_Ev h4
    refine ⟨⟨o1, o2, o3, o4⟩, ⟨w, x, y, z, ⟨e1, e2, e3, e4⟩, h5⟩, ?_⟩
    split at h6
    · rename_i m hm; exact ⟨m, hm, h6⟩
    · cases h6
  · cases h

/-! ### vectors and turns, exactly -/
theorem TE.mul {a b : dTurn} {aw ax ay az bw bx bz b_ : Int} {d e N M : Nat} (ha : TE a aw ax ay az d N) (hb : TE b bw bx b_ bz e M) (hN : N * M + N * M + N * M + N * M < 16777216) (hd : d + e ≤ 149) :
    TE (t_i_MulTurns a b) (aw * bw - ax * bx - ay * b_ - az * bz) (aw * bx + ax * bw + ay * bz - az * b_) (aw * b_ - ax * bz + ay * bw + az * bx) (aw * bz + ax * b_ - ay * bx + az * bw) (d + e) (N * M + N * M + N * M + N * M) := by
  obtain ⟨a1, a2, a3, a4⟩ := ha
  obtain ⟨b1, b2, b3, b4⟩ := hb
  have h1 : N * M < 16777216 := by omega
  have h2 : N * M + N * M < 16777216 := by omega
  have h3 : N * M + N * M + N * M < 16777216 := by omega
  exact ⟨(((a1.mul b1 h1 hd).sub (a2.mul b2 h1 hd) h2 hd).sub (a3.mul b3 h1 hd) h3 hd).sub (a4.mul b4 h1 hd) hN hd,
    (((a1.mul b2 h1 hd).add (a2.mul b1 h1 hd) h2 hd).add (a3.mul b4 h1 hd) h3 hd).sub (a4.mul b3 h1 hd) hN hd,
    (((a1.mul b3 h1 hd).sub (a2.mul b4 h1 hd) h2 hd).add (a3.mul b1 h1 hd) h3 hd).add (a4.mul b2 h1 hd) hN hd,
    (((a1.mul b4 h1 hd).add (a2.mul b3 h1 hd) h2 hd).sub (a3.mul b2 h1 hd) h3 hd).add (a4.mul b1 h1 hd) hN hd⟩

theorem VE.cross {a b : dVec} {ax ay az bx b_ bz : Int} {d e N M : Nat} (ha : VE a ax ay az d N) (hb : VE b bx b_ bz e M) (hN : N * M + N * M < 16777216) (hd : d + e ≤ 149) :
    VE (t_i_CrossOf a b) (ay * bz - az * b_) (az * bx - ax * bz) (ax * b_ - ay * bx) (d + e) (N * M + N * M) := by
  obtain ⟨a1, a2, a3⟩ := ha
  obtain ⟨b1, b2, b3⟩ := hb
  have h1 : N * M < 16777216 := by omega
  exact ⟨(a2.mul b3 h1 hd).sub (a3.mul b2 h1 hd) hN hd, (a3.mul b1 h1 hd).sub (a1.mul b3 h1 hd) hN hd, (a1.mul b2 h1 hd).sub (a2.mul b1 h1 hd) hN hd⟩
theorem VE.scale {a : dVec} {ax ay az n : Int} {s d e N M : Nat} (ha : VE a ax ay az d N) (hs : Ev s n e M) (hN : N * M < 16777216) (hd : d + e ≤ 149) : VE (t_i_ScaleVector a s) (ax * n) (ay * n) (az * n) (d + e) (N * M) :=
  ⟨ha.1.mul hs hN hd, ha.2.1.mul hs hN hd, ha.2.2.mul hs hN hd⟩
theorem VE.add {a b : dVec} {ax ay az bx b_ bz : Int} {d N M : Nat} (ha : VE a ax ay az d N) (hb : VE b bx b_ bz d M) (hN : N + M < 16777216) (hd : d ≤ 149) : VE (t_i_AddVectors a b) (ax + bx) (ay + b_) (az + bz) d (N + M) :=
  ⟨ha.1.add hb.1 hN hd, ha.2.1.add hb.2.1 hN hd, ha.2.2.add hb.2.2 hN hd⟩
theorem VE.up {a : dVec} {ax ay az : Int} {d N : Nat} (k : Nat) (ha : VE a ax ay az d N) : VE a (ax * ((2 ^ k : Nat) : Int)) (ay * ((2 ^ k : Nat) : Int)) (az * ((2 ^ k : Nat) : Int)) (d + k) (N * 2 ^ k) := ⟨ha.1.up k, ha.2.1.up k, ha.2.2.up k⟩
end Go.Fw
