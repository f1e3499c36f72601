/- What is drawn in quarters and halves, as whole numbers. No condition. -/
import Derived.Test.YthmpjkfccbchfaaFEq1
import Derived.Test.YthmpjkfccbchfaaFwE
set_option linter.unusedVariables false
set_option linter.unusedSimpArgs false
namespace Go.Fw

theorem fin_dec (k : FloatKind) (x : Nat) : fin k x ↔ Nat.blt (x % k.format.signWeight) k.format.infRung = true := by
  unfold fin; simp
/-! ### turns with halves -/
/-- Turns whose numbers are whole numbers at a place. -/
def TE (t : dTurn) (w x y z : Int) (d N : Nat) : Prop := Ev t.1 w d N ∧ Ev t.2.1 x d N ∧ Ev t.2.2.1 y d N ∧ Ev t.2.2.2.1 z d N
def VE (v : dVec) (x y z : Int) (d N : Nat) : Prop := Ev v.1 x d N ∧ Ev v.2.1 y d N ∧ Ev v.2.2.1 z d N

/-! ### vectors and turns, exactly -/
theorem TE.mul {a b : dTurn} {aw ax ay az bw bx bz b_ : Int} {d e N M : Nat} (ha : TE a aw ax ay az d N) (hb : TE b bw bx b_ bz e M) (hN : N * M + N * M + N * M + N * M < 16777216) (hd : d + e ≤ 149) :
    TE (t_i_MulTurns a b) (aw * bw - ax * bx - ay * b_ - az * bz) (aw * bx + ax * bw + ay * bz - az * b_) (aw * b_ - ax * bz + ay * bw + az * bx) (aw * bz + ax * b_ - ay * bx + az * bw) (d + e) (N * M + N * M + N * M + N * M) := by
  obtain ⟨a1, a2, a3, a4⟩ := ha
  obtain ⟨b1, b2, b3, b4⟩ := hb
  have h1 : N * M < 16777216 := by omega
  have h2 : N * M + N * M < 16777216 := by omega
  have h3 : N * M + N * M + N * M < 16777216 := by omega
  exact ⟨(((a1.mul b1 h1 hd).sub (a2.mul b2 h1 hd) h2 hd).sub (a3.mul b3 h1 hd) h3 hd).sub (a4.mul b4 h1 hd) hN hd,
    (((a1.mul b2 h1 hd).add (a2.mul b1 h1 hd) h2 hd).add (a3.mul b4 h1 hd) h3 hd).sub (a4.mul b3 h1 hd) hN hd,
    (((a1.mul b3 h1 hd).sub (a2.mul b4 h1 hd) h2 hd).add (a3.mul b1 h1 hd) h3 hd).add (a4.mul b2 h1 hd) hN hd,
    (((a1.mul b4 h1 hd).add (a2.mul b3 h1 hd) h2 hd).sub (a3.mul b2 h1 hd) h3 hd).add (a4.mul b1 h1 hd) hN hd⟩

theorem VE.cross {a b : dVec} {ax ay az bx b_ bz : Int} {d e N M : Nat} (ha : VE a ax ay az d N) (hb : VE b bx b_ bz e M) (hN : N * M + N * M < 16777216) (hd : d + e ≤ 149) :
    VE (t_i_CrossOf a b) (ay * bz - az * b_) (az * bx - ax * bz) (ax * b_ - ay * bx) (d + e) (N * M + N * M) := by
  obtain ⟨a1, a2, a3⟩ := ha
  obtain ⟨b1, b2, b3⟩ := hb
  have h1 : N * M < 16777216 := by omega
  exact ⟨(a2.mul b3 h1 hd).sub (a3.mul b2 h1 hd) hN hd, (a3.mul b1 h1 hd).sub (a1.mul b3 h1 hd) hN hd, (a1.mul b2 h1 hd).sub (a2.mul b1 h1 hd) hN hd⟩
theorem VE.scale {a : dVec} {ax ay az n : Int} {s d e N M : Nat} (ha : VE a ax ay az d N) (hs : Ev s n e M) (hN : N * M < 16777216) (hd : d + e ≤ 149) : VE (t_i_ScaleVector a s) (ax * n) (ay * n) (az * n) (d + e) (N * M) :=
  ⟨ha.1.mul hs hN hd, ha.2.1.mul hs hN hd, ha.2.2.mul hs hN hd⟩
theorem VE.add {a b : dVec} {ax ay az bx b_ bz : Int} {d N M : Nat} (ha : VE a ax ay az d N) (hb : VE b bx b_ bz d M) (hN : N + M < 16777216) (hd : d ≤ 149) : VE (t_i_AddVectors a b) (ax + bx) (ay + b_) (az + bz) d (N + M) :=
  ⟨ha.1.add hb.1 hN hd, ha.2.1.add hb.2.1 hN hd, ha.2.2.add hb.2.2 hN hd⟩
theorem VE.up {a : dVec} {ax ay az : Int} {d N : Nat} (k : Nat) (ha : VE a ax ay az d N) : VE a (ax * ((2 ^ k : Nat) : Int)) (ay * ((2 ^ k : Nat) : Int)) (az * ((2 ^ k : Nat) : Int)) (d + k) (N * 2 ^ k) := ⟨ha.1.up k, ha.2.1.up k, ha.2.2.up k⟩
theorem one_Ev : Ev 1065353216 1 0 1 := Ev.ofZ ((fin_dec _ _).2 (by decide +kernel)) (by decide +kernel) (by omega) (by omega)
theorem zero_Ev : Ev 0 0 0 0 := Ev.ofZ ((fin_dec _ _).2 (by decide +kernel)) (by decide +kernel) (by omega) (by omega)

end Go.Fw
