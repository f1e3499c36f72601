/- FnTurnProducts: turns with halves, exactly. No condition. -/
import Derived.Test.YthmpjkfccbchfaaFEq3
set_option linter.unusedVariables false
set_option linter.unusedSimpArgs false
namespace Go.Fw

/-- The numbers of a turned vector; k: the square of the turn's place. -/
def rx (k w x y z vx vy vz : Int) : Int := vx * k + (y * vz - z * vy) * 2 * w + (y * ((x * vy - y * vx) * 2) - z * ((z * vx - x * vz) * 2))
def ry (k w x y z vx vy vz : Int) : Int := vy * k + (z * vx - x * vz) * 2 * w + (z * ((y * vz - z * vy) * 2) - x * ((x * vy - y * vx) * 2))
def rz (k w x y z vx vy vz : Int) : Int := vz * k + (x * vy - y * vx) * 2 * w + (x * ((z * vx - x * vz) * 2) - y * ((y * vz - z * vy) * 2))
/-- The same for a turn of the right length. -/
def hx (w x y z vx vy vz : Int) : Int := (w * w + x * x - y * y - z * z) * vx + 2 * (x * y - w * z) * vy + 2 * (x * z + w * y) * vz
def hy (w x y z vx vy vz : Int) : Int := 2 * (x * y + w * z) * vx + (w * w - x * x + y * y - z * z) * vy + 2 * (y * z - w * x) * vz
def hz (w x y z vx vy vz : Int) : Int := 2 * (x * z - w * y) * vx + 2 * (y * z + w * x) * vy + (w * w - x * x - y * y + z * z) * vz

theorem rx_hx {k w x y z vx vy vz : Int} (h : w * w + x * x + y * y + z * z = k) : rx k w x y z vx vy vz = hx w x y z vx vy vz := by unfold rx hx; subst h; grind
theorem ry_hy {k w x y z vx vy vz : Int} (h : w * w + x * x + y * y + z * z = k) : ry k w x y z vx vy vz = hy w x y z vx vy vz := by unfold ry hy; subst h; grind
theorem rz_hz {k w x y z vx vy vz : Int} (h : w * w + x * x + y * y + z * z = k) : rz k w x y z vx vy vz = hz w x y z vx vy vz := by unfold rz hz; subst h; grind

section
variable (aw ax ay az bw bx b_ bz cw cx cy cz vx vy vz : Int)
theorem norm_mul : (aw * bw - ax * bx - ay * b_ - az * bz) * (aw * bw - ax * bx - ay * b_ - az * bz) + (aw * bx + ax * bw + ay * bz - az * b_) * (aw * bx + ax * bw + ay * bz - az * b_)
    + (aw * b_ - ax * bz + ay * bw + az * bx) * (aw * b_ - ax * bz + ay * bw + az * bx) + (aw * bz + ax * b_ - ay * bx + az * bw) * (aw * bz + ax * b_ - ay * bx + az * bw)
    = (aw * aw + ax * ax + ay * ay + az * az) * (bw * bw + bx * bx + b_ * b_ + bz * bz) := by grind
theorem hx_mul : hx (aw * bw - ax * bx - ay * b_ - az * bz) (aw * bx + ax * bw + ay * bz - az * b_) (aw * b_ - ax * bz + ay * bw + az * bx) (aw * bz + ax * b_ - ay * bx + az * bw) vx vy vz
    = hx aw ax ay az (hx bw bx b_ bz vx vy vz) (hy bw bx b_ bz vx vy vz) (hz bw bx b_ bz vx vy vz) := by unfold hx hy hz; grind
theorem hy_mul : hy (aw * bw - ax * bx - ay * b_ - az * bz) (aw * bx + ax * bw + ay * bz - az * b_) (aw * b_ - ax * bz + ay * bw + az * bx) (aw * bz + ax * b_ - ay * bx + az * bw) vx vy vz
    = hy aw ax ay az (hx bw bx b_ bz vx vy vz) (hy bw bx b_ bz vx vy vz) (hz bw bx b_ bz vx vy vz) := by unfold hx hy hz; grind
theorem hz_mul : hz (aw * bw - ax * bx - ay * b_ - az * bz) (aw * bx + ax * bw + ay * bz - az * b_) (aw * b_ - ax * bz + ay * bw + az * bx) (aw * bz + ax * b_ - ay * bx + az * bw) vx vy vz
    = hz aw ax ay az (hx bw bx b_ bz vx vy vz) (hy bw bx b_ bz vx vy vz) (hz bw bx b_ bz vx vy vz) := by unfold hx hy hz; grind
theorem hx_inv : hx aw (-ax) (-ay) (-az) (hx aw ax ay az vx vy vz) (hy aw ax ay az vx vy vz) (hz aw ax ay az vx vy vz) = (aw * aw + ax * ax + ay * ay + az * az) * (aw * aw + ax * ax + ay * ay + az * az) * vx := by unfold hx hy hz; grind
theorem hy_inv : hy aw (-ax) (-ay) (-az) (hx aw ax ay az vx vy vz) (hy aw ax ay az vx vy vz) (hz aw ax ay az vx vy vz) = (aw * aw + ax * ax + ay * ay + az * az) * (aw * aw + ax * ax + ay * ay + az * az) * vy := by unfold hx hy hz; grind
theorem hz_inv : hz aw (-ax) (-ay) (-az) (hx aw ax ay az vx vy vz) (hy aw ax ay az vx vy vz) (hz aw ax ay az vx vy vz) = (aw * aw + ax * ax + ay * ay + az * az) * (aw * aw + ax * ax + ay * ay + az * az) * vz := by unfold hx hy hz; grind
end

theorem r8Long_F' {code more : List Int} (h : t_w_r8Long code more = false) : code.length ≤ 4294967296 ∧ more.length ≤ 4294967296 := by
  unfold t_w_r8Long at h
  cases h1 : ilt 48 (code.length : Int)
  · rw [h1, cond_f] at h
    (simp only [ilt_T, ilt_F, ile_T, ile_F, ieq_T, ieq_F, bnot_T, bnot_F, ble_T, ble_F, nz_T, nz_F, nonneg_T, nonneg_F] at h1)
    (simp only [ilt_T, ilt_F, ile_T, ile_F, ieq_T, ieq_F, bnot_T, bnot_F, ble_T, ble_F, nz_T, nz_F, nonneg_T, nonneg_F] at h)
    omega
  · rw [h1] at h; cases h

theorem rt_r8Rest {code : List Int} (h : ∀ x ∈ code, 0 ≤ x ∧ x ≤ 255) (hl : code.length ≤ 4294967296) : Ret (g_w_r8Rest code) fun y => (∀ x ∈ y.1, 0 ≤ x ∧ x ≤ 255) ∧ y.1.length ≤ 4294967296 := by
  unfold g_w_r8Rest
  rw [iquo_nn (by omega) (by omega) (by omega)]
  refine Ret.cond (fun _ => Ret.pure ⟨fun x hx => h x (List.mem_of_mem_take (List.mem_of_mem_drop hx)), ?_⟩) fun hc => ?_
  · simp; omega
  · exfalso
    rw [Bool.and_eq_false_iff] at hc
    rcases hc with hc | hc <;> have := of_decide_eq_false hc <;> omega

theorem TE.inner {a b : dTurn} {aw ax ay az bw bx b_ bz : Int} {d e N M : Nat} (ha : TE a aw ax ay az d N) (hb : TE b bw bx b_ bz e M) (hN : N * M + N * M + N * M + N * M < 16777216) (hd : d + e ≤ 149) :
    Ev (t_i_InnerOfTurns a b) (aw * bw + ax * bx + ay * b_ + az * bz) (d + e) (N * M + N * M + N * M + N * M) := by
  obtain ⟨a1, a2, a3, a4⟩ := ha
  obtain ⟨b1, b2, b3, b4⟩ := hb
  have h1 : N * M < 16777216 := by omega
  have h2 : N * M + N * M < 16777216 := by omega
  have h3 : N * M + N * M + N * M < 16777216 := by omega
  exact (((a1.mul b1 h1 hd).add (a2.mul b2 h1 hd) h2 hd).add (a3.mul b3 h1 hd) h3 hd).add (a4.mul b4 h1 hd) hN hd

theorem TE.inv {t : dTurn} {w x y z : Int} {d N : Nat} (ho : okT t) (h : TE t w x y z d N) : TE (t_i_InverseOf t) w (-x) (-y) (-z) d N :=
  ⟨h.1, h.2.1.neg ho.2.1, h.2.2.1.neg ho.2.2.1, h.2.2.2.neg ho.2.2.2⟩
theorem TE.feq {t u : dTurn} {w x y z w' x' y' z' : Int} {d N M : Nat} (h : TE t w x y z d N) (h' : TE u w' x' y' z' d M) (e1 : w = w') (e2 : x = x') (e3 : y = y') (e4 : z = z') :
    (feq .f32 t.1 u.1 && (feq .f32 t.2.1 u.2.1 && (feq .f32 t.2.2.1 u.2.2.1 && (feq .f32 t.2.2.2.1 u.2.2.2.1 && true)))) = true := by
  subst e1 e2 e3 e4
  rw [h.1.feq h'.1, h.2.1.feq h'.2.1, h.2.2.1.feq h'.2.2.1, h.2.2.2.feq h'.2.2.2]; rfl
theorem VE.feq {t u : dVec} {x y z x' y' z' : Int} {d N M : Nat} (h : VE t x y z d N) (h' : VE u x' y' z' d M) (e2 : x = x') (e3 : y = y') (e4 : z = z') :
    (feq .f32 t.1 u.1 && (feq .f32 t.2.1 u.2.1 && (feq .f32 t.2.2.1 u.2.2.1 && true))) = true := by
  subst e2 e3 e4
  rw [h.1.feq h'.1, h.2.1.feq h'.2.1, h.2.2.feq h'.2.2]; rfl

theorem one_of {x n d N : Nat} (hx : x < 2 ^ 32) (h : Ev x (n : Int) d N) (e : n = 2 ^ d) : x = 1065353216 := by
  have h1 := one_Ev
  refine R_inj hx (by decide) h.1 h1.1 ?_ ?_
  · rw [h.2.1, h1.2.1, e, Rat.intCast_natCast, ← w2_nat, ← w2_add]
    show w2 ((d : Int) + -(d : Int)) = _
    rw [show (d : Int) + -(d : Int) = 0 by omega]
    decide +kernel
  · rw [h1.2.1]; decide +kernel

theorem v_FnTurnProducts (code more : List Int) (hok : okPs [.ro false (.slice (.int .u8)), .ro false (.slice (.int .u8))] (code, more, ())) : g_w_FnTurnProducts code more = some true := by
  have hc : ∀ x ∈ code, 0 ≤ x ∧ x ≤ 255 := fun x hx => hok.1.2 x hx
  have hm : ∀ x ∈ more, 0 ≤ x ∧ x ≤ 255 := fun x hx => hok.2.1.2 x hx
  unfold g_w_FnTurnProducts
  cases hL : t_w_r8Long code more
  rotate_left
  · rfl
  obtain ⟨hcl, hml⟩ := r8Long_F' hL
  obtain ⟨a, e1, ha⟩ := rx_R8Exact hc hcl
  obtain ⟨b, e2, hb⟩ := rx_R8Exact hm hml
  obtain ⟨r, e3, hr, hrl⟩ := rt_r8Rest hc hcl
  obtain ⟨c, e4, hcc⟩ := rx_R8Exact hr hrl
  obtain ⟨q, e5, hq, hql⟩ := rt_r8Rest hm hml
  obtain ⟨v, e6, ⟨_, vx, v1⟩, ⟨_, vy, v2⟩, _, vz, v3⟩ := rq_R8Small hq hql
  rw [cond_f, e1, opt_bind_some, e2, opt_bind_some, e3, opt_bind_some, e4, opt_bind_some, e5, opt_bind_some, e6, opt_bind_some]
  obtain ⟨oa, ⟨aw, ax, ay, az, ta, na⟩, ma, hma, fma⟩ := exB_spec ha
  obtain ⟨ob, ⟨bw, bx, b_, bz, tb, nb⟩, _⟩ := exB_spec hb
  obtain ⟨oc, ⟨cw, cx, cy, cz, tc, nc⟩, _⟩ := exB_spec hcc
  have hv : VE v vx vy vz 2 16 := ⟨v1, v2, v3⟩
  have tab := ta.mul tb (by decide) (by decide)
  have tbc := tb.mul tc (by decide) (by decide)
  have tx := tab.mul tc (by decide) (by decide)
  have ty := ta.mul tbc (by decide) (by decide)
  have tn := ta.mul (ta.inv oa) (by decide) (by decide)
  have hu := hv.rotate tab (by decide) (by decide) (by decide)
  have hwb := hv.rotate tb (by decide) (by decide) (by decide)
  have hwa := hwb.rotate ta (by decide) (by decide) (by decide)
  have hra := hv.rotate ta (by decide) (by decide) (by decide)
  have hba := hra.rotate (ta.inv oa) (by decide) (by decide) (by decide)
  have nab := norm_mul aw ax ay az bw bx b_ bz
  rw [na, nb] at nab
  -- the product of three
  rw [tx.feq ty (by grind) (by grind) (by grind) (by grind), cond_t]
  -- a turn and its inverse
  have hno : TE t_i_NoTurn (1 * ((2 ^ 2 : Nat) : Int)) (0 * ((2 ^ 2 : Nat) : Int)) (0 * ((2 ^ 2 : Nat) : Int)) (0 * ((2 ^ 2 : Nat) : Int)) 2 4 := ⟨one_Ev.up 2, ⟨(zero_Ev.up 2).1, (zero_Ev.up 2).2.1, by decide⟩, ⟨(zero_Ev.up 2).1, (zero_Ev.up 2).2.1, by decide⟩, ⟨(zero_Ev.up 2).1, (zero_Ev.up 2).2.1, by decide⟩⟩
  rw [tn.feq hno (by grind) (by grind) (by grind) (by grind), cond_t]
  -- turned by a product
  have ka : (((2 : Nat) ^ (1 + 1) : Nat) : Int) = 4 := rfl
  have kab : (((2 : Nat) ^ (1 + 1 + (1 + 1)) : Nat) : Int) = 16 := rfl
  have ninv : aw * aw + (-ax) * (-ax) + (-ay) * (-ay) + (-az) * (-az) = 4 := by grind
  rw [ka] at hwb hra hwa hba
  rw [kab] at hu
  have fu : (feq .f32 (t_i_RotateBy (t_i_MulTurns a b) v).1 (t_i_RotateBy a (t_i_RotateBy b v)).1 && (feq .f32 (t_i_RotateBy (t_i_MulTurns a b) v).2.1 (t_i_RotateBy a (t_i_RotateBy b v)).2.1 && (feq .f32 (t_i_RotateBy (t_i_MulTurns a b) v).2.2.1 (t_i_RotateBy a (t_i_RotateBy b v)).2.2.1 && true))) = true := by
    refine hu.feq hwa ?_ ?_ ?_
    · have h1 := rx_hx (vx := vx) (vy := vy) (vz := vz) nab
      have h2 := hx_mul aw ax ay az bw bx b_ bz vx vy vz
      have h3 := rx_hx (vx := hx bw bx b_ bz vx vy vz) (vy := hy bw bx b_ bz vx vy vz) (vz := hz bw bx b_ bz vx vy vz) na
      have h4 := rx_hx (vx := vx) (vy := vy) (vz := vz) nb
      have h5 := ry_hy (vx := vx) (vy := vy) (vz := vz) nb
      have h6 := rz_hz (vx := vx) (vy := vy) (vz := vz) nb
      rw [← h4, ← h5, ← h6] at h3
      rw [h2, ← h4, ← h5, ← h6, ← h3] at h1
      exact h1
    · have h1 := ry_hy (vx := vx) (vy := vy) (vz := vz) nab
      have h2 := hy_mul aw ax ay az bw bx b_ bz vx vy vz
      have h3 := ry_hy (vx := hx bw bx b_ bz vx vy vz) (vy := hy bw bx b_ bz vx vy vz) (vz := hz bw bx b_ bz vx vy vz) na
      have h4 := rx_hx (vx := vx) (vy := vy) (vz := vz) nb
      have h5 := ry_hy (vx := vx) (vy := vy) (vz := vz) nb
      have h6 := rz_hz (vx := vx) (vy := vy) (vz := vz) nb
      rw [← h4, ← h5, ← h6] at h3
      rw [h2, ← h4, ← h5, ← h6, ← h3] at h1
      exact h1
    · have h1 := rz_hz (vx := vx) (vy := vy) (vz := vz) nab
      have h2 := hz_mul aw ax ay az bw bx b_ bz vx vy vz
      have h3 := rz_hz (vx := hx bw bx b_ bz vx vy vz) (vy := hy bw bx b_ bz vx vy vz) (vz := hz bw bx b_ bz vx vy vz) na
      have h4 := rx_hx (vx := vx) (vy := vy) (vz := vz) nb
      have h5 := ry_hy (vx := vx) (vy := vy) (vz := vz) nb
      have h6 := rz_hz (vx := vx) (vy := vy) (vz := vz) nb
      rw [← h4, ← h5, ← h6] at h3
      rw [h2, ← h4, ← h5, ← h6, ← h3] at h1
      exact h1
  rw [fu, cond_t]
  have fb : (feq .f32 (t_i_RotateBy (t_i_InverseOf a) (t_i_RotateBy a v)).1 v.1 && (feq .f32 (t_i_RotateBy (t_i_InverseOf a) (t_i_RotateBy a v)).2.1 v.2.1 && (feq .f32 (t_i_RotateBy (t_i_InverseOf a) (t_i_RotateBy a v)).2.2.1 v.2.2.1 && true))) = true := by
    have h4 := rx_hx (vx := vx) (vy := vy) (vz := vz) na
    have h5 := ry_hy (vx := vx) (vy := vy) (vz := vz) na
    have h6 := rz_hz (vx := vx) (vy := vy) (vz := vz) na
    refine hba.feq (hv.up 4) ?_ ?_ ?_
    · have h3 := rx_hx (vx := hx aw ax ay az vx vy vz) (vy := hy aw ax ay az vx vy vz) (vz := hz aw ax ay az vx vy vz) ninv
      rw [hx_inv, na, ← h4, ← h5, ← h6] at h3
      exact h3.trans (by show (4 : Int) * 4 * vx = vx * 16; omega)
    · have h3 := ry_hy (vx := hx aw ax ay az vx vy vz) (vy := hy aw ax ay az vx vy vz) (vz := hz aw ax ay az vx vy vz) ninv
      rw [hy_inv, na, ← h4, ← h5, ← h6] at h3
      exact h3.trans (by show (4 : Int) * 4 * vy = vy * 16; omega)
    · have h3 := rz_hz (vx := hx aw ax ay az vx vy vz) (vy := hy aw ax ay az vx vy vz) (vz := hz aw ax ay az vx vy vz) ninv
      rw [hz_inv, na, ← h4, ← h5, ← h6] at h3
      exact h3.trans (by show (4 : Int) * 4 * vz = vz * 16; omega)
  rw [fb, cond_t]
  -- lengths
  have nx := norm_mul (aw * bw - ax * bx - ay * b_ - az * bz) (aw * bx + ax * bw + ay * bz - az * b_) (aw * b_ - ax * bz + ay * bw + az * bx) (aw * bz + ax * b_ - ay * bx + az * bw) cw cx cy cz
  rw [nab, nc] at nx
  have ix := tx.inner tx (by decide) (by decide)
  rw [nx] at ix
  have lx : t_i_InnerOfTurns (t_i_MulTurns (t_i_MulTurns a b) c) (t_i_MulTurns (t_i_MulTurns a b) c) = 1065353216 := one_of (n := 64) (fadd_okF _ _ _).lt32 ix (by decide)
  have len : g_i_LengthOfTurn (t_i_MulTurns (t_i_MulTurns a b) c) = some 1065353216 := by
    unfold g_i_LengthOfTurn
    rw [lx]
    decide +kernel
  have ia := ta.inner ta (by decide) (by decide)
  rw [na] at ia
  have la : t_i_InnerOfTurns a a = 1065353216 := one_of (n := 4) (fadd_okF _ _ _).lt32 ia (by decide)
  have one1 : feq .f32 1065353216 1065353216 = true := by decide +kernel
  rw [len, opt_bind_some, one1, cond_t, la, one1, cond_t, hma, opt_bind_some, fma]
end Go.Fw
