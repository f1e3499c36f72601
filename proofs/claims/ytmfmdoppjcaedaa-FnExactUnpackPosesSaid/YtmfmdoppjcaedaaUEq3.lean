/- Vectors and turns of words, poses of bytes. No condition. -/
import Derived.Test.YtmfmdoppjcaedaaUEq1
import Derived.Test.YtmfmdoppjcaedaaUEq2
set_option linter.unusedVariables false
set_option linter.unusedSimpArgs false
namespace Go.Fw
open Ieee

/-! ### parts of words -/
theorem ishr_nat (n j : Nat) (h : j ≤ 62) : ishr .i64 (n : Int) (j : Int) = ((n / 2 ^ j : Nat) : Int) := by
  unfold ishr
  rw [show (j : Int).toNat = j from rfl, Nat.min_eq_left (by show j ≤ 64; omega), Int.fdiv_eq_ediv_of_nonneg _ (Int.pow_nonneg (by decide))]
  rw [show (2 : Int) ^ j = ((2 ^ j : Nat) : Int) by rw [Int.natCast_pow]; rfl, Int.natCast_ediv]
theorem iand_nat (n b : Nat) (h : n < 4611686018427387904) (hb : b ≤ 61) : iand .i64 (n : Int) ((2 ^ b - 1 : Nat) : Int) = ((n % 2 ^ b : Nat) : Int) := by
  have hp : 2 ^ b ≤ 2 ^ 61 := Nat.pow_le_pow_right (by omega) hb
  have e61 : (2 ^ 61 : Nat) = 2305843009213693952 := by decide
  have h1 : 0 < 2 ^ b := Nat.two_pow_pos b
  unfold iand
  rw [show IntKind.i64.bits = 64 from rfl, BitVec.toNat_and, bv_nat64 (by omega) (by omega), bv_nat64 (by omega) (by omega)]
  rw [show ((n : Nat) : Int).toNat = n from rfl, show (((2 ^ b - 1 : Nat) : Nat) : Int).toNat = 2 ^ b - 1 from rfl, Nat.and_two_pow_sub_one_eq_mod]
  have := Nat.mod_le n (2 ^ b)
  exact wrap_i64 (by omega) (by omega)
theorem pow_b {b : Nat} (h2 : 2 ≤ b) (h16 : b ≤ 16) : 4 ≤ 2 ^ b ∧ 2 ^ b ≤ 65536 := by
  have h1 : 2 ^ 2 ≤ 2 ^ b := Nat.pow_le_pow_right (by omega) h2
  have h3 : 2 ^ b ≤ 2 ^ 16 := Nat.pow_le_pow_right (by omega) h16
  exact ⟨h1, h3⟩
theorem most_eq {b : Nat} (h2 : 2 ≤ b) (h16 : b ≤ 16) : g_s_l06Most (b : Int) = some ((2 ^ b - 1 : Nat) : Int) ∧ g_i_codes (b : Int) = some ((2 ^ b : Nat) : Int) := by
  obtain ⟨p1, p2⟩ := pow_b h2 h16
  have n1 : nonneg (b : Int) = true := by rw [nonneg_T]; omega
  constructor
  · unfold g_s_l06Most
    rw [iconv_u64 (by omega) (by omega), n1, cond_t, ishl_pow b (by omega), isub_ok (by omega) (by omega)]
    congr 1; omega
  · unfold g_i_codes
    rw [n1, cond_t, ishl_pow b (by omega)]
theorem codes_eq {j : Nat} (h : j ≤ 62) : g_i_codes (j : Int) = some ((2 ^ j : Nat) : Int) := by
  unfold g_i_codes
  rw [show nonneg (j : Int) = true by rw [nonneg_T]; omega, cond_t, ishl_pow j h]

/-- The three codes of a word, and what stands before them. -/
theorem parts_eq {b n : Nat} (h2 : 2 ≤ b) (h16 : b ≤ 16) (hn : n < 4611686018427387904) :
    g_i_parts (n : Int) (b : Int) = some (((n / 2 ^ (3 * b) : Nat) : Int), ((((n / 2 ^ (2 * b) % 2 ^ b : Nat) : Int), (((n / 2 ^ b % 2 ^ b : Nat) : Int), (((n % 2 ^ b : Nat) : Int), ()))), ())) := by
  obtain ⟨p1, p2⟩ := pow_b h2 h16
  obtain ⟨_, hc⟩ := most_eq h2 h16
  have nz1 : nz ((2 ^ b : Nat) : Int) = true := nz_t (by omega)
  have q1 : ∀ m : Nat, m < 4611686018427387904 → iquo .i64 (m : Int) ((2 ^ b : Nat) : Int) = ((m / 2 ^ b : Nat) : Int) := fun m hm => by
    rw [iquo_nn (by omega) (by omega) (by omega), Int.natCast_ediv]
  have q2 : ∀ m : Nat, irem .i64 (m : Int) ((2 ^ b : Nat) : Int) = ((m % 2 ^ b : Nat) : Int) := fun m => by
    rw [irem_nn (by omega), Int.natCast_emod]
  have d1 := Nat.div_le_self n (2 ^ b)
  have d2 := Nat.div_le_self (n / 2 ^ b) (2 ^ b)
  have e2 : 2 ^ (2 * b) = 2 ^ b * 2 ^ b := by rw [← Nat.pow_add]; congr 1; omega
  have e3 : 2 ^ (3 * b) = 2 ^ b * 2 ^ b * 2 ^ b := by rw [← Nat.pow_add, ← Nat.pow_add]; congr 1; omega
  have f2 : n / 2 ^ b / 2 ^ b = n / 2 ^ (2 * b) := by rw [Nat.div_div_eq_div_mul, e2]
  have f3 : n / 2 ^ (2 * b) / 2 ^ b = n / 2 ^ (3 * b) := by rw [Nat.div_div_eq_div_mul, e2, e3]
  have d3 := Nat.div_le_self n (2 ^ (2 * b))
  unfold g_i_parts
  simp only [hc, opt_bind_some, nz1, cond_t]
  rw [q1 n hn, q1 _ (by omega), f2, q1 _ (by omega), f3, q2, q2, q2]

theorem div_tab : ∀ b : Nat, b < 17 → 2 ≤ b → fdiv .f64 (fofInt .f64 ((2 ^ b - 1 : Nat) : Int)) (fofInt .f64 ((2 ^ b - 1 : Nat) : Int)) = 4607182418800017408 ∧ fdiv .f64 (fofInt .f64 0) (fofInt .f64 ((2 ^ b - 1 : Nat) : Int)) = 0 := by decide +kernel

/-- The number of a code. -/
theorem num_eq {b : Nat} (h2 : 2 ≤ b) (h16 : b ≤ 16) {r l : Nat} (hr : okF .f32 r) (hf : fin .f32 r) (hp : 0 ≤ R .f32 r) (hl : l = fneg .f32 r) {c : Nat} (hc : c < 2 ^ b) :
    ∃ x, g_s_l06Number (c : Int) l r (b : Int) = some x ∧ g_i_numberOf (c : Int) l r (b : Int) = some x := by
  obtain ⟨p1, p2⟩ := pow_b h2 h16
  obtain ⟨e1, e2⟩ := most_eq h2 h16
  obtain ⟨t1, t2⟩ := div_tab b (by omega) h2
  obtain ⟨x, hx⟩ := number_ok hr hf hp (c := c) (m := 2 ^ b - 1) (by omega) (by omega) (by omega) t1 t2
  subst hl
  refine ⟨x, ?_, ?_⟩
  · unfold g_s_l06Number g_s_l01Narrow
    rw [e1, opt_bind_some, hx]; rfl
  · unfold g_i_numberOf
    rw [e2, opt_bind_some, isub_ok (by omega) (by omega), show ((2 ^ b : Nat) : Int) - 1 = ((2 ^ b - 1 : Nat) : Int) by omega, hx]; rfl

/-! ### vectors -/
theorem positive_R {r : Nat} (hr : okF .f32 r) (h : t_i_isPositive r = true) : fin .f32 r ∧ 0 ≤ R .f32 r := by
  unfold t_i_isPositive at h
  cases h1 : t_i_IsFinite r
  · rw [h1] at h; cases h
  rw [h1, cond_t] at h
  have hf := (finite_iff .f32 r).1 h1
  refine ⟨hf, ?_⟩
  rw [fgt_R hf (by unfold fin; decide +kernel)] at h
  have h0 : R .f32 0 = 0 := by decide +kernel
  rw [h0] at h
  have := of_decide_eq_true h
  grind

theorem areBits_nat {b : Nat} (h2 : 2 ≤ b) (h16 : b ≤ 16) : t_i_areBits (b : Int) = true := by
  unfold t_i_areBits
  rw [ile_t (by omega), cond_t, ile_t (by omega)]

theorem shift_parts {b n : Nat} (h2 : 2 ≤ b) (h16 : b ≤ 16) (hn : n < 4611686018427387904) :
    imul .i64 2 (b : Int) = ((2 * b : Nat) : Int) ∧ imul .i64 3 (b : Int) = ((3 * b : Nat) : Int) ∧ iand .i64 (ishr .i64 (n : Int) ((2 * b : Nat) : Int)) ((2 ^ b - 1 : Nat) : Int) = ((n / 2 ^ (2 * b) % 2 ^ b : Nat) : Int) ∧
      iand .i64 (ishr .i64 (n : Int) (b : Int)) ((2 ^ b - 1 : Nat) : Int) = ((n / 2 ^ b % 2 ^ b : Nat) : Int) ∧ iand .i64 (n : Int) ((2 ^ b - 1 : Nat) : Int) = ((n % 2 ^ b : Nat) : Int) := by
  have d1 := Nat.div_le_self n (2 ^ b)
  have d2 := Nat.div_le_self n (2 ^ (2 * b))
  refine ⟨by rw [imul_ok (by omega) (by omega)]; omega, by rw [imul_ok (by omega) (by omega)]; omega, ?_, ?_, ?_⟩
  · rw [ishr_nat _ _ (by omega), iand_nat _ _ (by omega) (by omega)]
  · rw [ishr_nat _ _ (by omega), iand_nat _ _ (by omega) (by omega)]
  · rw [iand_nat _ _ (by omega) (by omega)]

theorem e_vector {b : Nat} (h2 : 2 ≤ b) (h16 : b ≤ 16) {r : Nat} (hr : okF .f32 r) (hp : t_i_isPositive r = true) {n : Nat} (hn : n < 2 ^ (3 * b)) :
    ∃ v, g_s_l06OpenVector (n : Int) r (b : Int) = some v ∧ g_i_UnpackVector (n : Int) r (b : Int) = some (v, (true, ())) := by
  obtain ⟨hf, h0⟩ := positive_R hr hp
  obtain ⟨p1, p2⟩ := pow_b h2 h16
  have hpow : 2 ^ (3 * b) ≤ 2 ^ 61 := Nat.pow_le_pow_right (by omega) (by omega)
  have e61 : (2 ^ 61 : Nat) = 2305843009213693952 := by decide
  obtain ⟨i2, i3, k1, k2, k3⟩ := shift_parts (n := n) h2 h16 (by omega)
  obtain ⟨e1, _⟩ := most_eq h2 h16
  obtain ⟨x, x1, x2⟩ := num_eq h2 h16 hr hf h0 rfl (c := n / 2 ^ (2 * b) % 2 ^ b) (Nat.mod_lt _ (by omega))
  obtain ⟨y, y1, y2⟩ := num_eq h2 h16 hr hf h0 rfl (c := n / 2 ^ b % 2 ^ b) (Nat.mod_lt _ (by omega))
  obtain ⟨z, z1, z2⟩ := num_eq h2 h16 hr hf h0 rfl (c := n % 2 ^ b) (Nat.mod_lt _ (by omega))
  have n1 : nonneg (b : Int) = true := by rw [nonneg_T]; omega
  have n2 : nonneg ((2 * b : Nat) : Int) = true := by rw [nonneg_T]; omega
  refine ⟨(x, (y, (z, ()))), ?_, ?_⟩
  · unfold g_s_l06OpenVector
    rw [e1, opt_bind_some, i2, iconv_u64 (by omega) (by omega), n2, cond_t, k1, x1, opt_bind_some, iconv_u64 (by omega) (by omega), n1, cond_t, k2, y1, opt_bind_some, k3, z1, opt_bind_some]
  · unfold g_i_UnpackVector
    rw [hp, bnot_t, cond_f, areBits_nat h2 h16, bnot_t, cond_f, ilt_f (by omega), cond_f, i3, codes_eq (by omega), opt_bind_some, ile_f (by omega), cond_f, parts_eq h2 h16 (by omega), opt_bind_some]
    simp only []
    rw [x2, opt_bind_some, y2, opt_bind_some, z2, opt_bind_some]

/-! ### turns -/
theorem sqrt_eq {x : Nat} (hx : okF .f32 x) : ∃ y, g_s_l01Sqrt x = some y ∧ g_i_RootNumber x = some y := by
  obtain ⟨y, hy, _⟩ := root_okF hx.lt32
  refine ⟨y, ?_, ?_⟩
  · unfold g_s_l01Sqrt g_s_l01Narrow
    rw [show t_math_Sqrt (fwide x) = t_mathsqrt (fwide x) from rfl, hy]; rfl
  · unfold g_i_RootNumber
    rw [show t_math_Sqrt (fwide x) = t_mathsqrt (fwide x) from rfl, hy]; rfl
theorem sqrt_zero : g_s_l01Sqrt 0 = some 0 := by decide +kernel
theorem mend_eq (t : dTurn) : ∃ t', g_s_l02Mend t = some t' ∧ g_i_MendTurn t = some t' := by
  have hok : okF .f32 (t_s_l02Inner t t) := fadd_okF _ _ _
  obtain ⟨y, h1, h2⟩ := sqrt_eq hok
  unfold g_s_l02Mend g_i_MendTurn g_i_LengthOfTurn
  rw [h1, show t_i_InnerOfTurns t t = t_s_l02Inner t t from rfl, h2]
  simp only [opt_bind_some]
  unfold t_i_isLength
  rw [show t_i_IsFinite y = t_s_l01Finite y from rfl]
  cases feq .f32 y 0 <;> cases t_s_l01Finite y <;> exact ⟨_, rfl, rfl⟩

theorem reach_turn : okF .f32 1061158912 ∧ fin .f32 1061158912 ∧ 0 ≤ R .f32 1061158912 ∧ 3208642560 = fneg .f32 1061158912 :=
  ⟨⟨by decide +kernel, by decide +kernel⟩, by unfold fin; decide +kernel, by decide +kernel, by decide +kernel⟩

theorem e_turn {b : Nat} (h2 : 2 ≤ b) (h16 : b ≤ 16) {n : Nat} (hn : n < 2 ^ (2 + 3 * b)) :
    ∃ t, g_s_l06Unpack (n : Int) (b : Int) = some t ∧ g_i_UnpackTurn (n : Int) (b : Int) = some (t, (true, ())) := by
  obtain ⟨ro, rf, rp, rl⟩ := reach_turn
  obtain ⟨p1, p2⟩ := pow_b h2 h16
  have hpow : 2 ^ (2 + 3 * b) ≤ 2 ^ 61 := Nat.pow_le_pow_right (by omega) (by omega)
  have hpow4 : 2 ^ (2 + 3 * b) = 4 * 2 ^ (3 * b) := by rw [Nat.pow_add]
  have e61 : (2 ^ 61 : Nat) = 2305843009213693952 := by decide
  have hp0 : 0 < 2 ^ (3 * b) := Nat.two_pow_pos _
  obtain ⟨i2, i3, k1, k2, k3⟩ := shift_parts (n := n) h2 h16 (by omega)
  obtain ⟨e1, _⟩ := most_eq h2 h16
  obtain ⟨x, x1, x2⟩ := num_eq h2 h16 ro rf rp rl (c := n / 2 ^ (2 * b) % 2 ^ b) (Nat.mod_lt _ (by omega))
  obtain ⟨y, y1, y2⟩ := num_eq h2 h16 ro rf rp rl (c := n / 2 ^ b % 2 ^ b) (Nat.mod_lt _ (by omega))
  obtain ⟨z, z1, z2⟩ := num_eq h2 h16 ro rf rp rl (c := n % 2 ^ b) (Nat.mod_lt _ (by omega))
  have n1 : nonneg (b : Int) = true := by rw [nonneg_T]; omega
  have n2 : nonneg ((2 * b : Nat) : Int) = true := by rw [nonneg_T]; omega
  have n3 : nonneg ((3 * b : Nat) : Int) = true := by rw [nonneg_T]; omega
  have k4 : n / 2 ^ (3 * b) < 4 := by rw [Nat.div_lt_iff_lt_mul hp0]; omega
  have k5 : ishr .i64 (n : Int) ((3 * b : Nat) : Int) = ((n / 2 ^ (3 * b) : Nat) : Int) := ishr_nat _ _ (by omega)
  have m4 : imul .i64 4 ((2 ^ (3 * b) : Nat) : Int) = 4 * ((2 ^ (3 * b) : Nat) : Int) := imul_ok (by omega) (by omega)
  have ok : okF .f32 (fsub .f32 (fsub .f32 (fsub .f32 1065353216 (fmul .f32 x x)) (fmul .f32 y y)) (fmul .f32 z z)) := fsub_okF _ _ _
  obtain ⟨q, q1, q2⟩ := sqrt_eq ok
  unfold g_s_l06Unpack g_i_UnpackTurn
  rw [e1, opt_bind_some, i2, iconv_u64 (by omega) (by omega), n2, cond_t, k1, x1, opt_bind_some, iconv_u64 (by omega) (by omega), n1, cond_t, k2, y1, opt_bind_some, k3, z1, opt_bind_some]
  rw [areBits_nat h2 h16, bnot_t, cond_f, ilt_f (by omega), cond_f, i3, codes_eq (by omega), opt_bind_some, m4, ile_f (by omega), cond_f, parts_eq h2 h16 (by omega), opt_bind_some]
  simp only []
  rw [x2, y2, z2, iconv_u64 (by omega) (by omega), n3, k5, sqrt_zero, q1]
  generalize n / 2 ^ (3 * b) = k at *
  have i00 : ieq 0 0 = true := rfl
  have i01 : ieq 0 1 = false := rfl
  have i02 : ieq 0 2 = false := rfl
  have i03 : ieq 0 3 = false := rfl
  have i10 : ieq 1 0 = false := rfl
  have i11 : ieq 1 1 = true := rfl
  have i12 : ieq 1 2 = false := rfl
  have i13 : ieq 1 3 = false := rfl
  have i20 : ieq 2 0 = false := rfl
  have i21 : ieq 2 1 = false := rfl
  have i22 : ieq 2 2 = true := rfl
  have i23 : ieq 2 3 = false := rfl
  have i30 : ieq 3 0 = false := rfl
  have i31 : ieq 3 1 = false := rfl
  have i32 : ieq 3 2 = false := rfl
  have i33 : ieq 3 3 = true := rfl
  have c0 : ((0 : Nat) : Int) = 0 := rfl
  have c1 : ((1 : Nat) : Int) = 1 := rfl
  have c2 : ((2 : Nat) : Int) = 2 := rfl
  have c3 : ((3 : Nat) : Int) = 3 := rfl
  match k, k4 with
  | 0, _ =>
    simp only [c0, i00, i01, i02, i03, i10, i20, i30, cond_t, cond_f, opt_bind_some]
    cases fgt .f32 (fsub .f32 (fsub .f32 (fsub .f32 1065353216 (fmul .f32 x x)) (fmul .f32 y y)) (fmul .f32 z z)) 0
    · obtain ⟨t, t1, t2⟩ := mend_eq (0, (x, (y, (z, ()))))
      simp only [bnot_f, cond_t, cond_f, t1, t2, opt_bind_some]
      exact ⟨_, rfl, rfl⟩
    · obtain ⟨t, t1, t2⟩ := mend_eq (q, (x, (y, (z, ()))))
      simp only [bnot_t, cond_t, cond_f, q2, t1, t2, opt_bind_some]
      exact ⟨_, rfl, rfl⟩
  | 1, _ =>
    simp only [c1, i01, i10, i11, i12, i13, i21, i31, cond_t, cond_f, opt_bind_some]
    cases fgt .f32 (fsub .f32 (fsub .f32 (fsub .f32 1065353216 (fmul .f32 x x)) (fmul .f32 y y)) (fmul .f32 z z)) 0
    · obtain ⟨t, t1, t2⟩ := mend_eq (x, (0, (y, (z, ()))))
      simp only [bnot_f, cond_t, cond_f, t1, t2, opt_bind_some]
      exact ⟨_, rfl, rfl⟩
    · obtain ⟨t, t1, t2⟩ := mend_eq (x, (q, (y, (z, ()))))
      simp only [bnot_t, cond_t, cond_f, q2, t1, t2, opt_bind_some]
      exact ⟨_, rfl, rfl⟩
  | 2, _ =>
    simp only [c2, i02, i12, i20, i21, i22, i23, i32, cond_t, cond_f, opt_bind_some]
    cases fgt .f32 (fsub .f32 (fsub .f32 (fsub .f32 1065353216 (fmul .f32 x x)) (fmul .f32 y y)) (fmul .f32 z z)) 0
    · obtain ⟨t, t1, t2⟩ := mend_eq (x, (y, (0, (z, ()))))
      simp only [bnot_f, cond_t, cond_f, t1, t2, opt_bind_some]
      exact ⟨_, rfl, rfl⟩
    · obtain ⟨t, t1, t2⟩ := mend_eq (x, (y, (q, (z, ()))))
      simp only [bnot_t, cond_t, cond_f, q2, t1, t2, opt_bind_some]
      exact ⟨_, rfl, rfl⟩
  | 3, _ =>
    simp only [c3, i03, i13, i23, i30, i31, i32, i33, cond_t, cond_f, opt_bind_some]
    cases fgt .f32 (fsub .f32 (fsub .f32 (fsub .f32 1065353216 (fmul .f32 x x)) (fmul .f32 y y)) (fmul .f32 z z)) 0
    · obtain ⟨t, t1, t2⟩ := mend_eq (x, (y, (z, (0, ()))))
      simp only [bnot_f, cond_t, cond_f, t1, t2, opt_bind_some]
      exact ⟨_, rfl, rfl⟩
    · obtain ⟨t, t1, t2⟩ := mend_eq (x, (y, (z, (q, ()))))
      simp only [bnot_t, cond_t, cond_f, q2, t1, t2, opt_bind_some]
      exact ⟨_, rfl, rfl⟩

/-! ### poses -/
structure Pk (p : dPacking) (tb pb c : Nat) : Prop where
  t : p.1 = (tb : Int)
  q : p.2.1 = (pb : Int)
  t2 : 2 ≤ tb
  t16 : tb ≤ 16
  q2 : 2 ≤ pb
  q16 : pb ≤ 16
  pos : t_i_isPositive p.2.2.1 = true
  ok : okF .f32 p.2.2.1
  c1 : 1 ≤ c
  c12 : c ≤ 12
section
variable {p : dPacking} {tb pb c : Nat}

def szOf (tb pb c : Nat) : List Int := ((3 * pb : Nat) : Int) :: List.replicate c ((2 + 3 * tb : Nat) : Int)
theorem Pk.m3 (h : Pk p tb pb c) : iadd .i64 2 (imul .i64 3 p.1) = ((2 + 3 * tb : Nat) : Int) ∧ imul .i64 3 p.2.1 = ((3 * pb : Nat) : Int) := by
  have := h.t16; have := h.q16
  rw [h.t, h.q, imul_ok (by omega) (by omega), imul_ok (by omega) (by omega), iadd_ok (by omega) (by omega)]
  exact ⟨by omega, by omega⟩
theorem szOf_ok (h : Pk p tb pb c) : okSz (szOf tb pb c) := by
  have := h.t16; have := h.q16; have := h.t2; have := h.q2
  intro n hn
  rcases List.mem_cons.1 hn with rfl | hn
  · omega
  · have := List.eq_of_mem_replicate hn
    omega
theorem szOf_length : (szOf tb pb c).length = c + 1 := by simp [szOf]

theorem s_parts (h : Pk p tb pb c) : ∀ (m i N : Nat) (acc : List Int), i + m = c → acc.length ≤ i + 1 → m < N →
    iter L_s_l06Parts_1 N ((p, ((c : Int), ((i : Int), ()))), (acc, ())) = some ((), (acc ++ List.replicate m ((2 + 3 * tb : Nat) : Int), ()))
  | 0, i, N, acc, hi, ha, hN => by
    obtain _ | N := N
    · omega
    rw [iter_succ]
    simp only [L_s_l06Parts_1]
    rw [show i = c by omega, ilt_self, cond_f]
    simp
  | m + 1, i, N, acc, hi, ha, hN => by
    obtain _ | N := N
    · omega
    have := h.c12
    have ih := s_parts h m (i + 1) N (acc ++ [((2 + 3 * tb : Nat) : Int)]) (by omega) (by simp; omega) (by omega)
    rw [iter_succ]
    simp only [L_s_l06Parts_1]
    rw [ilt_nat (show i < c by omega), cond_t, ble_t (by omega), cond_t, iadd_nat (by omega), h.m3.1]
    refine ih.trans ?_
    rw [List.append_assoc, List.replicate_succ]; rfl

theorem i_parts (h : Pk p tb pb c) : ∀ (m i N : Nat) (acc : List Int), i + m = c → acc.length ≤ i + 1 → m < N →
    iter L_i_Packing_sizes_1 N (((c : Int), ((i : Int), ())), ((p, ()), (acc, ()))) = some ((), (acc ++ List.replicate m ((2 + 3 * tb : Nat) : Int), ()))
  | 0, i, N, acc, hi, ha, hN => by
    obtain _ | N := N
    · omega
    rw [iter_succ]
    simp only [L_i_Packing_sizes_1]
    rw [show i = c by omega, ilt_self, cond_f]
    simp
  | m + 1, i, N, acc, hi, ha, hN => by
    obtain _ | N := N
    · omega
    have := h.c12
    have ih := i_parts h m (i + 1) N (acc ++ [((2 + 3 * tb : Nat) : Int)]) (by omega) (by simp; omega) (by omega)
    rw [iter_succ]
    simp only [L_i_Packing_sizes_1]
    rw [ilt_nat (show i < c by omega), cond_t, ble_t (by omega), cond_t, iadd_nat (by omega), h.m3.1]
    refine ih.trans ?_
    rw [List.append_assoc, List.replicate_succ]; rfl

theorem e_sizes (h : Pk p tb pb c) : g_s_l06Parts p (c : Int) = some (szOf tb pb c) ∧ g_i_Packing_sizes p (c : Int) = some (szOf tb pb c) := by
  have := h.c12
  have h1 := s_parts h c 0 fuel [((3 * pb : Nat) : Int)] (by omega) (by simp) (by unfold fuel; omega)
  have h2 := i_parts h c 0 fuel [((3 * pb : Nat) : Int)] (by omega) (by simp) (by unfold fuel; omega)
  rw [show ((0 : Nat) : Int) = 0 from rfl] at h1 h2
  unfold g_s_l06Parts g_i_Packing_sizes
  rw [h.m3.2, h1, h2]
  exact ⟨rfl, rfl⟩

theorem e_turns (h : Pk p tb pb c) (ws : List Int) (b0 b1 b4 b4' : dVec) (hl : ws.length ≤ 13) (hw : ∀ i, 1 ≤ i → i < ws.length → ∃ n : Nat, ws.getD i 0 = (n : Int) ∧ n < 2 ^ (2 + 3 * tb)) : ∀ (m j N : Nat) (acc : List dTurn), j + m = ws.length - 1 → 1 ≤ ws.length → acc.length ≤ j → m < N →
    ∃ acc' : List dTurn, acc'.length = acc.length + m ∧
      iter L_s_l06Open_1 N ((p, (((j + 1 : Nat) : Int), ())), ((b0, ()), (ws, (acc, ((b4, ()), ()))))) = some ((), ((b0, ()), (acc', ((b4, ()), ())))) ∧
      iter L_i_UnpackPose_1 N ((false, ((1, ws.length - 1), (((ws.length - 1 : Nat) : Int), ((j : Int), ())))), ((p, ()), ((b1, ()), (ws, ((b4', ()), (acc, ())))))) = some (false, ((false, ()), ((b1, ()), ((b4', ()), (acc', ())))))
  | 0, j, N, acc, hj, h1, ha, hN => by
    obtain _ | N := N
    · omega
    refine ⟨acc, rfl, ?_, ?_⟩
    · rw [iter_succ]
      simp only [L_s_l06Open_1]
      rw [show j + 1 = ws.length by omega, ilt_self, cond_f]
    · rw [iter_succ]
      simp only [L_i_UnpackPose_1]
      rw [show j = ws.length - 1 by omega, ilt_self, cond_f]
  | m + 1, j, N, acc, hj, h1, ha, hN => by
    obtain _ | N := N
    · omega
    obtain ⟨n, n1, n2⟩ := hw (j + 1) (by omega) (by omega)
    obtain ⟨t, t1, t2⟩ := e_turn h.t2 h.t16 n2
    obtain ⟨acc', a1, a2, a3⟩ := e_turns h ws b0 b1 b4 b4' hl hw m (j + 1) N (acc ++ [t]) (by omega) h1 (by simp; omega) (by omega)
    refine ⟨acc', by rw [a1]; simp; omega, ?_, ?_⟩
    · rw [iter_succ]
      simp only [L_s_l06Open_1]
      rw [ilt_nat (show j + 1 < ws.length by omega), cond_t, ix_nat (show j + 1 < ws.length by omega), opt_bind_some, n1, h.t, t1, opt_bind_some, ble_t (by omega), cond_t, iadd_nat (by omega)]
      exact a2
    · rw [iter_succ]
      simp only [L_i_UnpackPose_1]
      rw [ilt_nat (show j < ws.length - 1 by omega), cond_t, ix_nat (show j < ws.length - 1 by omega), opt_bind_some, Nat.add_comm 1 j, n1, h.t, t2, opt_bind_some]
      simp only [bnot_t, cond_f]
      rw [ble_t (by omega), cond_t, iadd_nat (by omega)]
      exact a3

theorem e_pose (h : Pk p tb pb c) (hv : t_i_ValidPacking p = true) (hc : t_i_isCount (c : Int) = true) (s : ByteArray) (hs : s.size ≤ 1048576) :
    ∃ (b : Bool) (y : dPose), g_s_l06Open p (c : Int) s = some (y, (b, ())) ∧ g_i_UnpackPose p (c : Int) s = some (y, (b, ())) ∧ y.2.1.length ≤ 12 := by
  have hc12 := h.c12
  have hl := szOf_length (tb := tb) (pb := pb) (c := c)
  obtain ⟨z1, z2⟩ := e_sizes h
  obtain ⟨b, ws, w1, w2, w3⟩ := e_words s (szOf tb pb c) (by omega) (szOf_ok h) hs
  unfold g_s_l06Open g_i_UnpackPose
  simp only [hv, hc, bnot_t, cond_f]
  rw [z1, opt_bind_some, w1, opt_bind_some, z2, opt_bind_some, w2, opt_bind_some]
  cases b
  · exact ⟨false, ((0, (0, (0, ()))), ([], ())), rfl, rfl, Nat.zero_le _⟩
  have hws := w3 rfl
  have hwl : ws.length = c + 1 := by rw [hws, readAll_length]; exact hl
  have hr : ∀ i, i < c + 1 → 0 ≤ ws.getD i 0 ∧ ws.getD i 0 < ((2 ^ ((szOf tb pb c).getD i 0).toNat : Nat) : Int) := fun i hi => by
    rw [hws]; exact readAll_range s _ 0 i (szOf_ok h) (by omega)
  obtain ⟨v0, v1⟩ := hr 0 (by omega)
  obtain ⟨n0, hn0⟩ := Int.eq_ofNat_of_zero_le v0
  rw [show (szOf tb pb c).getD 0 0 = ((3 * pb : Nat) : Int) from rfl, show (((3 * pb : Nat) : Nat) : Int).toNat = 3 * pb from rfl] at v1
  obtain ⟨v, e1, e2⟩ := e_vector h.q2 h.q16 h.ok h.pos (n := n0) (by omega)
  have hturn : ∀ i, 1 ≤ i → i < ws.length → ∃ n : Nat, ws.getD i 0 = (n : Int) ∧ n < 2 ^ (2 + 3 * tb) := by
    intro i h1 h2
    obtain ⟨u0, u1⟩ := hr i (by omega)
    have hget : (szOf tb pb c).getD i 0 = ((2 + 3 * tb : Nat) : Int) := by
      obtain ⟨j, rfl⟩ : ∃ j, i = j + 1 := ⟨i - 1, by omega⟩
      show (List.replicate c ((2 + 3 * tb : Nat) : Int)).getD j 0 = _
      rw [List.getD_eq_getElem?_getD, List.getElem?_replicate, if_pos (by omega)]; rfl
    rw [hget, show (((2 + 3 * tb : Nat) : Nat) : Int).toNat = 2 + 3 * tb from rfl] at u1
    obtain ⟨n, hn⟩ := Int.eq_ofNat_of_zero_le u0
    exact ⟨n, hn, by omega⟩
  obtain ⟨ts, t1, t2, t3⟩ := e_turns h ws (0, (0, (0, ()))) (0, (0, (0, ()))) v v (by omega) hturn (ws.length - 1) 0 fuel [] (by omega) (by omega) (Nat.zero_le _) (by unfold fuel; omega)
  rw [show ((0 + 1 : Nat) : Int) = 1 from rfl] at t2
  rw [show ((0 : Nat) : Int) = 0 from rfl] at t3
  simp only [bnot_t, cond_f, cond_t]
  rw [ix_ok (by omega) (by omega), opt_bind_some, show (0 : Int).toNat = 0 from rfl, hn0, h.q, e1, opt_bind_some, opt_bind_some, hn0, e2, opt_bind_some]
  simp only [bnot_t, cond_f]
  rw [t2, opt_bind_some, t3, show decide ((1 : Int) ≤ (((List.length ws) : Nat) : Int)) = true from decide_eq_true (by omega), cond_t, opt_bind_some, cond_f]
  exact ⟨true, _, rfl, rfl, by show ts.length ≤ 12; rw [t1]; simp; omega⟩

theorem Pk.size (h : Pk p tb pb c) : ∃ n : Nat, 1 ≤ n ∧ n ≤ 1000 ∧ t_s_l06Size p (c : Int) = (n : Int) := by
  have := h.t16; have := h.q16; have := h.t2; have := h.q2; have := h.c1; have := h.c12
  have hm : c * (2 + 3 * tb) ≤ 12 * 50 := Nat.mul_le_mul h.c12 (by omega)
  have e : imul .i64 (c : Int) ((2 + 3 * tb : Nat) : Int) = ((c * (2 + 3 * tb) : Nat) : Int) := by
    unfold imul
    rw [← Int.natCast_mul]
    exact wrap_i64 (by omega) (by omega)
  refine ⟨(3 * pb + c * (2 + 3 * tb) + 7) / 8, by omega, by omega, ?_⟩
  unfold t_s_l06Size
  have a1 : iadd .i64 ((3 * pb : Nat) : Int) ((c * (2 + 3 * tb) : Nat) : Int) = ((3 * pb + c * (2 + 3 * tb) : Nat) : Int) := by rw [iadd_ok (by omega) (by omega)]; omega
  have a2 : iadd .i64 ((3 * pb + c * (2 + 3 * tb) : Nat) : Int) 7 = ((3 * pb + c * (2 + 3 * tb) + 7 : Nat) : Int) := by rw [iadd_ok (by omega) (by omega)]; omega
  rw [h.m3.1, h.m3.2, e, a1, a2, iquo_nn (by omega) (by omega) (by omega)]
  omega

theorem e_poses (h : Pk p tb pb c) (hv : t_i_ValidPacking p = true) (hc : t_i_isCount (c : Int) = true) (s : ByteArray) (hs : s.size ≤ 4096) {n : Nat} (hn : 1 ≤ n) : ∀ (m a N : Nat) (acc : List dPose), a + n * m = s.size → acc.length ≤ a → m < N →
    ∃ (e : Bool) (acc' : List dPose), szL z_Pose acc' ≤ szL z_Pose acc + 13 * m ∧
      iter L_s_UnpackPoses_1 N (((c : Int), (s, (false, ((n : Int), ((a : Int), ()))))), ((p, ()), (acc, ()))) = some (e, ((false, ()), (acc', ()))) ∧
      iter L_i_UnpackPoses_1 N (((c : Int), (s, (false, ((n : Int), ((a : Int), ()))))), ((p, ()), (acc, ()))) = some (e, ((false, ()), (acc', ())))
  | 0, a, N, acc, ha, hl, hN => by
    obtain _ | N := N
    · omega
    rw [Nat.mul_zero, Nat.add_zero] at ha
    refine ⟨false, acc, Nat.le_refl _, ?_, ?_⟩
    · rw [iter_succ]
      simp only [L_s_UnpackPoses_1]
      rw [ha, ilt_self, cond_f]
    · rw [iter_succ]
      simp only [L_i_UnpackPoses_1]
      rw [ha, ilt_self, cond_f]
  | m + 1, a, N, acc, ha, hl, hN => by
    obtain _ | N := N
    · omega
    have hm : n * (m + 1) = n * m + n := Nat.mul_succ n m
    have hsz : (ByteArray.extract s a (a + n)).size ≤ 1048576 := by
      rw [ByteArray.size_extract]; omega
    obtain ⟨b, y, y1, y2, y3⟩ := e_pose h hv hc (ByteArray.extract s a (a + n)) hsz
    have hadd : iadd .i64 (a : Int) (n : Int) = ((a + n : Nat) : Int) := by rw [iadd_ok (by omega) (by omega)]; omega
    have d1 : (decide ((0 : Int) ≤ ((a + n : Nat) : Int)) && decide (((a + n : Nat) : Int) ≤ ((s.size : Nat) : Int))) = true := by
      rw [decide_eq_true (by omega), decide_eq_true (by omega)]; rfl
    have d2 : (decide ((0 : Int) ≤ (a : Int)) && decide ((a : Int) ≤ ((a + n : Nat) : Int))) = true := by
      rw [decide_eq_true (by omega), decide_eq_true (by omega)]; rfl
    cases b
    · refine ⟨true, acc, by omega, ?_, ?_⟩
      · rw [iter_succ]
        simp only [L_s_UnpackPoses_1]
        rw [ilt_nat (by omega), cond_t, hadd, d1, cond_t, d2, cond_t, nat_int_toNat, nat_int_toNat, y1, opt_bind_some]
        simp only [bnot_f, cond_t]
      · rw [iter_succ]
        simp only [L_i_UnpackPoses_1]
        rw [ilt_nat (by omega), cond_t, hadd, d1, cond_t, d2, cond_t, nat_int_toNat, nat_int_toNat, y2, opt_bind_some]
        simp only [bnot_f, cond_t]
    · obtain ⟨e, acc', a1, a2, a3⟩ := e_poses h hv hc s hs hn m (a + n) N (acc ++ [y]) (by omega) (by simp; omega) (by omega)
      have hz : szL z_Pose (acc ++ [y]) ≤ szL z_Pose acc + 13 := by
        rw [szL_append]
        have e1 : szL z_Pose [y] = 1 + szL z_Turn y.2.1 + 0 := rfl
        have e2 : szL z_Turn y.2.1 = y.2.1.length := szL_zero y.2.1
        omega
      refine ⟨e, acc', by omega, ?_, ?_⟩
      · rw [iter_succ]
        simp only [L_s_UnpackPoses_1]
        rw [ilt_nat (by omega), cond_t, hadd, d1, cond_t, d2, cond_t, nat_int_toNat, nat_int_toNat, y1, opt_bind_some]
        simp only [bnot_t, cond_f, List.nil_append]
        rw [ble_t (by simp; omega), cond_t]
        exact a2
      · rw [iter_succ]
        simp only [L_i_UnpackPoses_1]
        rw [ilt_nat (by omega), cond_t, hadd, d1, cond_t, d2, cond_t, nat_int_toNat, nat_int_toNat, y2, opt_bind_some]
        simp only [bnot_t, cond_f, List.nil_append]
        rw [ble_t (by simp; omega), cond_t]
        exact a3
end

theorem valid_eq (p : dPacking) : t_s_l06Is p = t_i_ValidPacking p := rfl
theorem count_eq (c : Int) : t_s_l06Count c = t_i_isCount c := rfl
theorem size_eq (p : dPacking) (c : Int) (h1 : t_i_ValidPacking p = true) (h2 : t_i_isCount c = true) : t_i_PackedSize p c = (t_s_l06Size p c, (true, ())) := by
  unfold t_i_PackedSize
  rw [h1, h2]; rfl

theorem areBits_T {b : Int} (h : t_i_areBits b = true) : 2 ≤ b ∧ b ≤ 16 := by
  unfold t_i_areBits at h
  by_cases h1 : 2 ≤ b
  · rw [ile_t h1, cond_t, ile_T] at h
    exact ⟨h1, h⟩
  · rw [ile_f (by omega)] at h; cases h

theorem e_UnpackPoses (p : dPacking) (c : Int) (s : ByteArray) (d : ((s.size : Nat) : Int) ≤ 1048576) (hok : okPs [.ro true tPacking, .ro false (.int .i64), .ro false .str] (p, c, s, ())) : Same (g_s_UnpackPoses p c s) (g_i_UnpackPoses p c s) fun y => szL z_Pose y.1 ≤ 1048576 := by
  unfold g_s_UnpackPoses g_i_UnpackPoses
  rw [valid_eq, count_eq]
  cases hv : t_i_ValidPacking p
  · have e : (t_i_PackedSize p c).2.1 = false := by unfold t_i_PackedSize; rw [hv]; rfl
    rw [e]
    exact Same.pure (Nat.zero_le _)
  cases hc : t_i_isCount c
  · have e : (t_i_PackedSize p c).2.1 = false := by unfold t_i_PackedSize; rw [hv, hc]; rfl
    rw [e]
    exact Same.pure (Nat.zero_le _)
  have e := size_eq p c hv hc
  rw [e]
  simp only [bnot_t, cond_f]
  by_cases h4 : (4096 : Int) < (s.size : Nat)
  · rw [ilt_t h4]
    exact Same.pure (Nat.zero_le _)
  rw [ilt_f (by omega), cond_f, cond_f]
  have hv' : t_i_areBits p.1 = true ∧ t_i_areBits p.2.1 = true ∧ t_i_isPositive p.2.2.1 = true := by
    have hv := hv
    unfold t_i_ValidPacking at hv
    cases h1 : t_i_areBits p.1
    · rw [h1] at hv; cases hv
    cases h2 : t_i_areBits p.2.1
    · rw [h1, h2] at hv; cases hv
    rw [h1, h2, cond_t, cond_t] at hv
    exact ⟨rfl, rfl, hv⟩
  obtain ⟨v1, v2, v3⟩ := hv'
  obtain ⟨b1, b2⟩ := areBits_T v1
  obtain ⟨b3, b4⟩ := areBits_T v2
  have hc' : 1 ≤ c ∧ c ≤ 12 := by
    have hc := hc
    unfold t_i_isCount at hc
    by_cases h1 : 1 ≤ c
    · rw [ile_t h1, cond_t, ile_T] at hc
      exact ⟨h1, hc⟩
    · rw [ile_f (by omega)] at hc; cases hc
  obtain ⟨tb, htb⟩ := Int.eq_ofNat_of_zero_le (show 0 ≤ p.1 by omega)
  obtain ⟨pb, hpb⟩ := Int.eq_ofNat_of_zero_le (show 0 ≤ p.2.1 by omega)
  obtain ⟨cn, rfl⟩ := Int.eq_ofNat_of_zero_le (show 0 ≤ c by omega)
  have hpk : Pk p tb pb cn := ⟨htb, hpb, by omega, by omega, by omega, by omega, v3, hok.1.2.2.1, by omega, by omega⟩
  obtain ⟨n, n1, n2, n3⟩ := hpk.size
  rw [n3, nz_t (by omega), cond_t, cond_t]
  have hrem : irem .i64 ((s.size : Nat) : Int) (n : Int) = ((s.size % n : Nat) : Int) := by rw [irem_nn (by omega), Int.natCast_emod]
  rw [hrem]
  by_cases h0 : s.size % n = 0
  · rw [ieq_t (by omega), bnot_t, cond_f, cond_f]
    have hd := Nat.div_add_mod s.size n
    have hq : s.size / n ≤ s.size := Nat.div_le_self _ _
    obtain ⟨e, acc, a1, a2, a3⟩ := e_poses hpk hv hc s (by omega) n1 (s.size / n) 0 fuel [] (by omega) (Nat.zero_le _) (by unfold fuel; omega)
    rw [show ((0 : Nat) : Int) = 0 from rfl] at a2 a3
    rw [List.append_nil, a2, a3]
    simp only [opt_bind_some]
    rw [szL_nil] at a1
    cases e
    · exact Same.pure (by show szL z_Pose acc ≤ 1048576; omega)
    · exact Same.pure (Nat.zero_le _)
  · rw [ieq_f (by omega)]
    exact Same.pure (Nat.zero_le _)
end Go.Fw
