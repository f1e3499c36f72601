/- FnRotations: turned vectors. No condition. -/
import Derived.Test.YthmpjkfccbchfaaFEq6
set_option linter.unusedVariables false
set_option linter.unusedSimpArgs false
namespace Go.Fw

/-- A turned vector, in rational numbers. -/
def qx (w x y z vx vy vz : Rat) : Rat := vx + (y * vz - z * vy) * 2 * w + (y * ((x * vy - y * vx) * 2) - z * ((z * vx - x * vz) * 2))
def qy (w x y z vx vy vz : Rat) : Rat := vy + (z * vx - x * vz) * 2 * w + (z * ((y * vz - z * vy) * 2) - x * ((x * vy - y * vx) * 2))
def qz (w x y z vx vy vz : Rat) : Rat := vz + (x * vy - y * vx) * 2 * w + (x * ((z * vx - x * vz) * 2) - y * ((y * vz - z * vy) * 2))
/-- The same, without the part that is not there for the length 1. -/
def px (w x y z vx vy vz : Rat) : Rat := (w * w + x * x - y * y - z * z) * vx + 2 * (x * y - w * z) * vy + 2 * (x * z + w * y) * vz
def py (w x y z vx vy vz : Rat) : Rat := 2 * (x * y + w * z) * vx + (w * w - x * x + y * y - z * z) * vy + 2 * (y * z - w * x) * vz
def pz (w x y z vx vy vz : Rat) : Rat := 2 * (x * z - w * y) * vx + 2 * (y * z + w * x) * vy + (w * w - x * x - y * y + z * z) * vz

section
variable (w x y z a b c : Rat)
theorem qx_px : qx w x y z a b c = px w x y z a b c + (1 - (w * w + x * x + y * y + z * z)) * a := by unfold qx px; grind
theorem qy_py : qy w x y z a b c = py w x y z a b c + (1 - (w * w + x * x + y * y + z * z)) * b := by unfold qy py; grind
theorem qz_pz : qz w x y z a b c = pz w x y z a b c + (1 - (w * w + x * x + y * y + z * z)) * c := by unfold qz pz; grind
theorem p_norm : px w x y z a b c * px w x y z a b c + py w x y z a b c * py w x y z a b c + pz w x y z a b c * pz w x y z a b c = (w * w + x * x + y * y + z * z) * (w * w + x * x + y * y + z * z) * (a * a + b * b + c * c) := by unfold px py pz; grind
end

/-- What rounding does to a turned vector. -/
theorem rot_err {t : dTurn} {v : dVec} {V : Rat} (ht : finT t) (hv : finV v) (i1 : In (R1 t.1) (1000001 / 1000000)) (i2 : In (R1 t.2.1) (1000001 / 1000000)) (i3 : In (R1 t.2.2.1) (1000001 / 1000000)) (i4 : In (R1 t.2.2.2.1) (1000001 / 1000000))
    (v1 : In (R1 v.1) V) (v2 : In (R1 v.2.1) V) (v3 : In (R1 v.2.2.1) V) (hV1 : 1 / 1000000000 ≤ V) (hV2 : V ≤ 100000) :
    Ap (t_i_RotateBy t v).1 (qx (R1 t.1) (R1 t.2.1) (R1 t.2.2.1) (R1 t.2.2.2.1) (R1 v.1) (R1 v.2.1) (R1 v.2.2.1)) (V * (63 * u32)) ∧
    Ap (t_i_RotateBy t v).2.1 (qy (R1 t.1) (R1 t.2.1) (R1 t.2.2.1) (R1 t.2.2.2.1) (R1 v.1) (R1 v.2.1) (R1 v.2.2.1)) (V * (63 * u32)) ∧
    Ap (t_i_RotateBy t v).2.2.1 (qz (R1 t.1) (R1 t.2.1) (R1 t.2.2.1) (R1 t.2.2.2.1) (R1 v.1) (R1 v.2.1) (R1 v.2.2.1)) (V * (63 * u32)) := by
  obtain ⟨t1, t2, t3, t4⟩ := ht
  obtain ⟨w1, w2, w3⟩ := hv
  have T : ∀ {a b : Rat}, In a (1000001 / 1000000) → In b V → In (a * b) (1000001 / 1000000 * V) := fun h h' => h.mul h'
  have hu : u32 = 1 / 16777216 := rfl
  have he : e32 = 1 / 713623846352979940529142984724747568191373312 := rfl
  -- one part of a cross product
  have cr : ∀ {p q r s : Nat}, fin .f32 p → fin .f32 q → fin .f32 r → fin .f32 s → In (R1 p) (1000001 / 1000000) → In (R1 r) (1000001 / 1000000) → In (R1 q) V → In (R1 s) V →
      Ap (fsub .f32 (fmul .f32 p q) (fmul .f32 r s)) (R1 p * R1 q - R1 r * R1 s) (V * (4001 / 1000 * u32)) ∧ In (R1 p * R1 q - R1 r * R1 s) (2000002 / 1000000 * V) := fun fp fq fr fs ip ir iq is => by
    have a1 := ((Ap.self fp).mul (Ap.self fq) ip iq (T ip iq) (by rw [big32]; grind)).mono (f := V * (10001 / 10000 * u32)) (by rw [hu, he]; grind)
    have a2 := ((Ap.self fr).mul (Ap.self fs) ir is (T ir is) (by rw [big32]; grind)).mono (f := V * (10001 / 10000 * u32)) (by rw [hu, he]; grind)
    have hin := ((T ip iq).sub (T ir is)).mono (N := 2000002 / 1000000 * V) (by grind)
    exact ⟨(a1.sub a2 hin (by rw [big32, hu]; grind)).mono (by rw [hu]; grind), hin⟩
  obtain ⟨cx, nx⟩ := cr t3 w3 t4 w2 i3 i4 v3 v2
  obtain ⟨cy, ny⟩ := cr t4 w1 t2 w3 i4 i2 v1 v3
  obtain ⟨cz, nz⟩ := cr t2 w2 t3 w1 i2 i3 v2 v1
  -- doubled
  have db : ∀ {x : Nat} {a : Rat}, Ap x a (V * (4001 / 1000 * u32)) → In a (2000002 / 1000000 * V) → Ap (fmul .f32 x 1073741824) (a * 2) (V * (8002 / 1000 * u32)) ∧ In (a * 2) (4000004 / 1000000 * V) := fun h hin =>
    ⟨(h.double hin (by rw [big32, hu]; grind)).mono (by rw [hu]; grind), ⟨by have := hin.1; grind, by have := hin.2; grind⟩⟩
  obtain ⟨ax, mx⟩ := db cx nx
  obtain ⟨ay, my⟩ := db cy ny
  obtain ⟨az, mz⟩ := db cz nz
  -- v and the part along
  have sc : ∀ {x y : Nat} {a : Rat}, Ap x a (V * (8002 / 1000 * u32)) → In a (4000004 / 1000000 * V) → fin .f32 y → In (R1 y) V → Ap (fadd .f32 y (fmul .f32 x t.1)) (R1 y + a * R1 t.1) (V * (1701 / 100 * u32)) ∧ In (R1 y + a * R1 t.1) (500001 / 100000 * V) := fun h hin fy iy => by
    have hm := (hin.mul i1).mono (N := 400001 / 100000 * V) (by grind)
    have a1 := (h.mul (Ap.self t1) hin i1 hm (by rw [big32, hu]; grind)).mono (f := V * (12003 / 1000 * u32)) (by rw [hu, he]; grind)
    have hs := (iy.add hm).mono (N := 500001 / 100000 * V) (by grind)
    exact ⟨((Ap.self fy).add a1 hs (by rw [big32, hu]; grind)).mono (by rw [hu]; grind), hs⟩
  obtain ⟨sx, lx⟩ := sc ax mx w1 v1
  obtain ⟨sy, ly⟩ := sc ay my w2 v2
  obtain ⟨sz, lz⟩ := sc az mz w3 v3
  -- the part across
  have ac : ∀ {p q x y : Nat} {a b : Rat}, fin .f32 p → fin .f32 q → In (R1 p) (1000001 / 1000000) → In (R1 q) (1000001 / 1000000) → Ap x a (V * (8002 / 1000 * u32)) → Ap y b (V * (8002 / 1000 * u32)) → In a (4000004 / 1000000 * V) → In b (4000004 / 1000000 * V) →
      Ap (fsub .f32 (fmul .f32 p x) (fmul .f32 q y)) (R1 p * a - R1 q * b) (V * (3202 / 100 * u32)) ∧ In (R1 p * a - R1 q * b) (800002 / 100000 * V) := fun fp fq ip iq hx hy ia ib => by
    have h1 := (ip.mul ia).mono (N := 400001 / 100000 * V) (by grind)
    have h2 := (iq.mul ib).mono (N := 400001 / 100000 * V) (by grind)
    have a1 := ((Ap.self fp).mul hx ip ia h1 (by rw [big32, hu]; grind)).mono (f := V * (12003 / 1000 * u32)) (by rw [hu, he]; grind)
    have a2 := ((Ap.self fq).mul hy iq ib h2 (by rw [big32, hu]; grind)).mono (f := V * (12003 / 1000 * u32)) (by rw [hu, he]; grind)
    have hin := (h1.sub h2).mono (N := 800002 / 100000 * V) (by grind)
    exact ⟨(a1.sub a2 hin (by rw [big32, hu]; grind)).mono (by rw [hu]; grind), hin⟩
  obtain ⟨rx, ox⟩ := ac t3 t4 i3 i4 az ay mz my
  obtain ⟨ry, oy⟩ := ac t4 t2 i4 i2 ax az mx mz
  obtain ⟨rz, oz⟩ := ac t2 t3 i2 i3 ay ax my mx
  have fi : ∀ {x y : Nat} {a b : Rat}, Ap x a (V * (1701 / 100 * u32)) → Ap y b (V * (3202 / 100 * u32)) → In (a + b) (1300003 / 100000 * V) → Ap (fadd .f32 x y) (a + b) (V * (63 * u32)) := fun h h' hin =>
    (h.add h' hin (by rw [big32, hu]; grind)).mono (by rw [hu]; grind)
  unfold t_i_RotateBy t_i_AddVectors t_i_ScaleVector t_i_CrossOf t_i_Turn_vector
  dsimp only
  exact ⟨fi sx rx ((lx.add ox).mono (by grind)), fi sy ry ((ly.add oy).mono (by grind)), fi sz rz ((lz.add oz).mono (by grind))⟩

/-! ### lengths of vectors -/
theorem add_nn {x y : Nat} (hx : fin .f32 x) (hy : fin .f32 y) (h1 : 0 ≤ R1 x) (h2 : 0 ≤ R1 y) (hb : R1 x + R1 y ≤ big32) : 0 ≤ R1 (fadd .f32 x y) := by
  obtain ⟨m, c, e1, e2⟩ := fadd_fin hx hy
  have hz : R1 x + R1 y = ((Z .f32 x + Z .f32 y : Int) : Rat) * w2 FloatKind.f32.format.leastPlace := by
    unfold R1 R; rw [Rat.intCast_add]; grind
  have hz0 : 0 ≤ Z .f32 x + Z .f32 y := by
    have h3 : ((0 : Int) : Rat) * w2 FloatKind.f32.format.leastPlace ≤ ((Z .f32 x + Z .f32 y : Int) : Rat) * w2 FloatKind.f32.format.leastPlace := by
      rw [← hz]
      have e0 : ((0 : Int) : Rat) = 0 := rfl
      rw [e0, Rat.zero_mul]; grind
    exact (le_iff_Z (k := .f32)).1 h3
  have hs := sum_R (k := .f32) (t := sg .f32 x && sg .f32 y) e2
  unfold R1
  rw [e1]
  by_cases h0 : Z .f32 x + Z .f32 y = 0
  · have : m = 0 := by
      rw [h0] at e2
      have := Nat.two_pow_pos c
      rcases Nat.mul_eq_zero.1 e2 with h | h
      · exact h
      · omega
    subst this
    rw [round_zero]; decide
  · rw [if_neg h0, decide_eq_false (by omega)]
    rw [if_neg h0, decide_eq_false (by omega)] at hs
    have hm : (m : Rat) * w2 (FloatKind.f32.format.leastPlace + c) ≤ w2 (top .f32) := by
      have h4 : (m : Rat) * w2 (FloatKind.f32.format.leastPlace + c) = R1 x + R1 y := by rw [hz, ← hs]; rfl
      rw [h4]
      exact Rat.le_trans hb big_top
    obtain ⟨_, _, v, v1, v2, _⟩ := round_R .f32 false m (FloatKind.f32.format.leastPlace + c) hm
    rw [v2]
    simpa using v1

theorem mul_nn {x : Nat} (hx : fin .f32 x) (hb : R1 x * R1 x ≤ big32) : 0 ≤ R1 (fmul .f32 x x) := by
  obtain ⟨m, e, e1, e2⟩ := fmul_fin hx hx
  have hxx : (sg .f32 x ^^ sg .f32 x) = false := by cases sg .f32 x <;> rfl
  rw [hxx] at e1 e2
  unfold R1
  rw [e1]
  have hm : (m : Rat) * w2 e ≤ w2 (top .f32) := by
    have h4 : (m : Rat) * w2 e = R1 x * R1 x := e2
    rw [h4]
    exact Rat.le_trans hb big_top
  obtain ⟨_, _, v, v1, v2, _⟩ := round_R .f32 false m e hm
  rw [v2]
  simpa using v1

theorem inner3_R {t : dVec} {B : Rat} (hf : finV t) (h1 : In (R1 t.1) B) (h2 : In (R1 t.2.1) B) (h3 : In (R1 t.2.2.1) B) (hB : B ≤ 1024) :
    fin .f32 (t_i_InnerOf t t) ∧ 0 ≤ R1 (t_i_InnerOf t t) ∧ Near (R1 (t_i_InnerOf t t)) (R1 t.1 * R1 t.1 + R1 t.2.1 * R1 t.2.1 + R1 t.2.2.1 * R1 t.2.2.1)
      ((R1 t.1 * R1 t.1 + R1 t.2.1 * R1 t.2.1 + R1 t.2.2.1 * R1 t.2.2.1) * (1 / 4000000) + 10 * e32) := by
  obtain ⟨f1, f2, f3⟩ := hf
  have hB0 : 0 ≤ B := by have := h1.1; have := h1.2; grind
  have hBB : B * B ≤ 1048576 := by have := sq_le hB0 hB; grind
  have sq : ∀ x : Nat, fin .f32 x → In (R1 x) B → Ap (fmul .f32 x x) (R1 x * R1 x) (R1 x * R1 x * u32 + e32) ∧ 0 ≤ R1 x * R1 x ∧ R1 x * R1 x ≤ 1048576 := fun x hx hin => by
    have h := (hin.mul hin)
    have hp := sq_nn (R1 x)
    have a := (Ap.self hx).mul (Ap.self hx) hin hin (M := R1 x * R1 x) ⟨by grind, by grind⟩ (by have := h.2; unfold big32; grind)
    exact ⟨a.mono (by grind), hp, by have := h.2; grind⟩
  obtain ⟨a1, p1, q1⟩ := sq _ f1 h1
  obtain ⟨a2, p2, q2⟩ := sq _ f2 h2
  obtain ⟨a3, p3, q3⟩ := sq _ f3 h3
  have k1 := mul_nn f1 (by unfold big32; grind)
  have k2 := mul_nn f2 (by unfold big32; grind)
  have k3 := mul_nn f3 (by unfold big32; grind)
  unfold t_i_InnerOf
  generalize fmul .f32 t.1 t.1 = m1 at *
  generalize fmul .f32 t.2.1 t.2.1 = m2 at *
  generalize fmul .f32 t.2.2.1 t.2.2.1 = m3 at *
  generalize R1 t.1 * R1 t.1 = s1 at *
  generalize R1 t.2.1 * R1 t.2.1 = s2 at *
  generalize R1 t.2.2.1 * R1 t.2.2.1 = s3 at *
  have b1 := (a1.add a2 (M := s1 + s2) ⟨by grind, by grind⟩ (by unfold big32 u32 e32; grind)).mono (f := (s1 + s2) * (2001 / 1000 * u32) + 3 * e32) (by unfold u32 e32; grind)
  have b2 := (b1.add a3 (M := s1 + s2 + s3) ⟨by grind, by grind⟩ (by unfold big32 u32 e32; grind)).mono (f := (s1 + s2 + s3) * (1 / 4000000) + 10 * e32) (by unfold u32 e32; grind)
  have o1 := add_nn a1.1 a2.1 k1 k2 (by have := a1.2.2; have := a2.2.2; unfold R1 big32 u32 e32 at *; grind)
  have o2 := add_nn b1.1 a3.1 o1 k3 (by have := b1.2.2; have := a3.2.2; unfold R1 big32 u32 e32 at *; grind)
  exact ⟨b2.1, o2, b2.2⟩

def tin : Rat := 1 / 35184372088832

/-- The length of a vector. -/
theorem long_R {t : dVec} {B : Rat} (hf : finV t) (h1 : In (R1 t.1) B) (h2 : In (R1 t.2.1) B) (h3 : In (R1 t.2.2.1) B) (hB : B ≤ 1024) :
    ∃ n, g_i_LongOf t = some n ∧ fin .f32 n ∧ n < 2 ^ 32 ∧ 0 ≤ R1 n ∧ NB (R1 t.1) (R1 t.2.1) (R1 t.2.2.1) (R1 n * (1000001 / 1000000) + tin) ∧ (∀ A, NB (R1 t.1) (R1 t.2.1) (R1 t.2.2.1) A → R1 n ≤ A * (1000001 / 1000000) + tin) ∧
      Near (R1 n * R1 n) (R1 t.1 * R1 t.1 + R1 t.2.1 * R1 t.2.1 + R1 t.2.2.1 * R1 t.2.2.1) ((R1 t.1 * R1 t.1 + R1 t.2.1 * R1 t.2.1 + R1 t.2.2.1 * R1 t.2.2.1) * (1 / 2500000) + tin * tin / 100) := by
  obtain ⟨g1, hI0, g2⟩ := inner3_R hf h1 h2 h3 hB
  have hB0 : 0 ≤ B := by have := h1.1; have := h1.2; grind
  have s1 := sq_nn (R1 t.1); have s2 := sq_nn (R1 t.2.1); have s3 := sq_nn (R1 t.2.2.1)
  have hSB : R1 t.1 * R1 t.1 + R1 t.2.1 * R1 t.2.1 + R1 t.2.2.1 * R1 t.2.2.1 ≤ 4194304 := by
    have := h1.sq; have := h2.sq; have := h3.sq
    have hBB := sq_le hB0 hB
    grind
  have hS0 : 0 ≤ R1 t.1 * R1 t.1 + R1 t.2.1 * R1 t.2.1 + R1 t.2.2.1 * R1 t.2.2.1 := by grind
  have lo := g2.1
  have hi := g2.2
  have hlt : t_i_InnerOf t t < 2 ^ 32 := (fadd_okF _ _ _).lt32
  have hI1 : R .f32 (t_i_InnerOf t t) ≤ 1152921504606846976 := by unfold e32 at *; grind
  obtain ⟨r, r1, r2, r3, r4⟩ := root_R hlt g1 hI0 hI1
  have hnear : Near (R1 r * R1 r) (R1 t.1 * R1 t.1 + R1 t.2.1 * R1 t.2.1 + R1 t.2.2.1 * R1 t.2.2.1) ((R1 t.1 * R1 t.1 + R1 t.2.1 * R1 t.2.1 + R1 t.2.2.1 * R1 t.2.2.1) * (1 / 2500000) + tin * tin / 100) := by
    have := r4.1
    have := r4.2
    unfold e32 at *
    unfold tin
    exact ⟨by grind, by grind⟩
  refine ⟨r, ?_, r2, (fconv_okF (mathsqrt_okF _).1 r1).lt32, r3, ?_, ?_, hnear⟩
  · unfold g_i_LongOf g_i_RootNumber
    show Option.bind (Option.bind (fconv .f64 .f32 (t_mathsqrt (fwide _))) _) _ = _
    rw [r1]; rfl
  · have h := hnear.1
    have hnn := sq_nn (R1 r)
    refine ⟨?_, by unfold tin; grind⟩
    generalize R1 t.1 * R1 t.1 + R1 t.2.1 * R1 t.2.1 + R1 t.2.2.1 * R1 t.2.2.1 = S at *
    have : (R1 r * (1000001 / 1000000) + tin) * (R1 r * (1000001 / 1000000) + tin) = R1 r * R1 r * (1000001 / 1000000 * (1000001 / 1000000)) + R1 r * (2 * tin * (1000001 / 1000000)) + tin * tin := by grind
    rw [this]
    unfold tin at *
    grind
  · intro A hA
    have h := hnear.2
    have hA0 := hA.2
    refine le_of_sq (by unfold tin; grind) ?_
    have hA1 := hA.1
    generalize R1 t.1 * R1 t.1 + R1 t.2.1 * R1 t.2.1 + R1 t.2.2.1 * R1 t.2.2.1 = S at *
    have : (A * (1000001 / 1000000) + tin) * (A * (1000001 / 1000000) + tin) = A * A * (1000001 / 1000000 * (1000001 / 1000000)) + A * (2 * tin * (1000001 / 1000000)) + tin * tin := by grind
    rw [this]
    unfold tin at *
    grind

theorem NT.comp {t : dTurn} (h : NT t) : In (R1 t.1) (1000001 / 1000000) ∧ In (R1 t.2.1) (1000001 / 1000000) ∧ In (R1 t.2.2.1) (1000001 / 1000000) ∧ In (R1 t.2.2.2.1) (1000001 / 1000000) := by
  have p1 := sq_nn (R1 t.1); have p2 := sq_nn (R1 t.2.1); have p3 := sq_nn (R1 t.2.2.1); have p4 := sq_nn (R1 t.2.2.2.1)
  have q2 := h.2.2.2
  exact ⟨In.of_sq (by grind) (by decide +kernel), In.of_sq (by grind) (by decide +kernel), In.of_sq (by grind) (by decide +kernel), In.of_sq (by grind) (by decide +kernel)⟩

theorem p_NB {w x y z a b c S A : Rat} (hS : w * w + x * x + y * y + z * z = S) (h0 : 0 ≤ S) (h : NB a b c A) : NB (px w x y z a b c) (py w x y z a b c) (pz w x y z a b c) (S * A) := by
  refine ⟨?_, Rat.mul_nonneg h0 h.2⟩
  rw [p_norm, hS]
  have := Rat.mul_le_mul_of_nonneg_left h.1 (Rat.mul_nonneg h0 h0)
  grind

end Go.Fw
