/- FnTurnProducts: turns with halves, exactly. No condition. -/
import Derived.Test.YthmpjkfccbchfaaFEq3
set_option linter.unusedVariables false
set_option linter.unusedSimpArgs false
namespace Go.Fw

/-- The same for a turn of the right length. -/
def hx (w x y z vx vy vz : Int) : Int := (w * w + x * x - y * y - z * z) * vx + 2 * (x * y - w * z) * vy + 2 * (x * z + w * y) * vz
def hy (w x y z vx vy vz : Int) : Int := 2 * (x * y + w * z) * vx + (w * w - x * x + y * y - z * z) * vy + 2 * (y * z - w * x) * vz
def hz (w x y z vx vy vz : Int) : Int := 2 * (x * z - w * y) * vx + 2 * (y * z + w * x) * vy + (w * w - x * x - y * y + z * z) * vz

section
variable (aw ax ay az bw bx b_ bz cw cx cy cz vx vy vz : Int)
end

theorem r8Long_F' {code more : List Int} (h : t_w_r8Long code more = false) : code.length ≤ 4294967296 ∧ more.length ≤ 4294967296 := by
  unfold t_w_r8Long at h
  cases h1 : ilt 48 (code.length : Int)
  · rw [h1, cond_f] at h
    (simp only [ilt_T, ilt_F, ile_T, ile_F, ieq_T, ieq_F, bnot_T, bnot_F, ble_T, ble_F, nz_T, nz_F, nonneg_T, nonneg_F] at h1)
    (simp only [ilt_T, ilt_F, ile_T, ile_F, ieq_T, ieq_F, bnot_T, bnot_F, ble_T, ble_F, nz_T, nz_F, nonneg_T, nonneg_F] at h)
    omega
  · rw [h1] at h; cases h

theorem TE.inner {a b : dTurn} {aw ax ay az bw bx b_ bz : Int} {d e N M : Nat} (ha : TE a aw ax ay az d N) (hb : TE b bw bx b_ bz e M) (hN : N * M + N * M + N * M + N * M < 16777216) (hd : d + e ≤ 149) :
    Ev (t_i_InnerOfTurns a b) (aw * bw + ax * bx + ay * b_ + az * bz) (d + e) (N * M + N * M + N * M + N * M) := by
  obtain ⟨a1, a2, a3, a4⟩ := ha
  obtain ⟨b1, b2, b3, b4⟩ := hb
  have h1 : N * M < 16777216 := by omega
  have h2 : N * M + N * M < 16777216 := by omega
  have h3 : N * M + N * M + N * M < 16777216 := by omega
  exact (((a1.mul b1 h1 hd).add (a2.mul b2 h1 hd) h2 hd).add (a3.mul b3 h1 hd) h3 hd).add (a4.mul b4 h1 hd) hN hd

theorem TE.inv {t : dTurn} {w x y z : Int} {d N : Nat} (ho : okT t) (h : TE t w x y z d N) : TE (t_i_InverseOf t) w (-x) (-y) (-z) d N :=
  ⟨h.1, h.2.1.neg ho.2.1, h.2.2.1.neg ho.2.2.1, h.2.2.2.neg ho.2.2.2⟩
theorem TE.feq {t u : dTurn} {w x y z w' x' y' z' : Int} {d N M : Nat} (h : TE t w x y z d N) (h' : TE u w' x' y' z' d M) (e1 : w = w') (e2 : x = x') (e3 : y = y') (e4 : z = z') :
    (feq .f32 t.1 u.1 && (feq .f32 t.2.1 u.2.1 && (feq .f32 t.2.2.1 u.2.2.1 && (feq .f32 t.2.2.2.1 u.2.2.2.1 && true)))) = true := by
  subst e1 e2 e3 e4
  rw [h.1.feq h'.1, h.2.1.feq h'.2.1, h.2.2.1.feq h'.2.2.1, h.2.2.2.feq h'.2.2.2]; rfl
theorem VE.feq {t u : dVec} {x y z x' y' z' : Int} {d N M : Nat} (h : VE t x y z d N) (h' : VE u x' y' z' d M) (e2 : x = x') (e3 : y = y') (e4 : z = z') :
    (feq .f32 t.1 u.1 && (feq .f32 t.2.1 u.2.1 && (feq .f32 t.2.2.1 u.2.2.1 && true))) = true := by
  subst e2 e3 e4
  rw [h.1.feq h'.1, h.2.1.feq h'.2.1, h.2.2.feq h'.2.2]; rfl

end Go.Fw
