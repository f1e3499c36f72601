/- FnSpringRests: the law. No condition. -/
import Derived.Test.YtalhiopcegnobaaSRest7
set_option linter.unusedVariables false
set_option linter.unusedSimpArgs false
set_option maxRecDepth 20000
namespace Go.Fw
open Ieee

def Sml (x : Nat) : Prop := okF .f32 x ∧ In (R1 x) 4 ∧ sub32 x = false
def smlB (x : Nat) : Bool := decide (-4 ≤ R1 x) && (decide (R1 x ≤ 4) && (!(sub32 x)))
theorem smlB_all : ∀ n : Nat, n < 33 → smlB (fdiv .f32 (fofInt .f32 ((n : Int) - 16)) 1082130432) = true := by decide +kernel
theorem sml_of {n : Nat} (h : n < 33) : Sml (fdiv .f32 (fofInt .f32 ((n : Int) - 16)) 1082130432) := by
  have h := smlB_all n h
  unfold smlB at h
  rw [Bool.and_eq_true, Bool.and_eq_true, decide_eq_true_eq, decide_eq_true_eq, Bool.not_eq_true'] at h
  exact ⟨fdiv_okF _ _ _, ⟨h.1, h.2.1⟩, h.2.2⟩

theorem rs_DrawSmall {n : Nat} {s : dSrc} (h : okS n s) (hn : n ≤ 4611686018427380000) : Ret (g_s_l01DrawSmall s) fun y => Sml y.1 ∧ okS (n + 2) y.2.1 := by
  unfold g_s_l01DrawSmall
  refine Ret.bind ((rt_pick 33 h hn (by omega)).mono fun y hy => Ret.pure ⟨?_, hy.2⟩)
  obtain ⟨k, hk⟩ := Int.eq_ofNat_of_zero_le hy.1.1
  have := hy.1.2
  rw [hk] at this
  dsimp only
  rw [hk, isub_ok (by omega) (by omega)]
  exact sml_of (by omega)

theorem rs_R8Small {code : List Int} (h : ∀ x ∈ code, 0 ≤ x ∧ x ≤ 255) (hl : code.length ≤ 4294967296) : Ret (g_s_R8Small code) fun v => Sml v.1 ∧ Sml v.2.1 := by
  unfold g_s_R8Small
  refine Ret.bind ((rs_DrawSmall (okS_from h hl) (by omega)).mono fun y hy => Ret.bind ((rs_DrawSmall hy.2 (by omega)).mono fun z hz => Ret.bind ((rs_DrawSmall hz.2 (by omega)).mono fun u hu => Ret.pure ⟨hy.1, hz.1⟩)))

/-- A spring of the law comes to rest. -/
theorem rests {s : dTurn} {i j : Nat} (hi : i < 3) (hj : j < 3) (h1 : Sml s.1) (h2 : Sml s.2.1) (hw : s.2.2 = (qw i, (qw j, ()))) :
    ∃ n, n ≤ 10000 ∧ okT s ∧ eqT (stepOf (zs s n) 0) (zs s n) = true ∧ (∀ m, m < n → eqT (stepOf (zs s m) 0) (zs s m) = false) ∧ R1 (zs s n).2.1 = 0 ∧ nearR (R1 (zs s n).1 * U) 0 32 := by
  obtain ⟨fi, ri⟩ := qw_tab i hi
  obtain ⟨fj, rj⟩ := qw_tab j hj
  have ok : okT s := ⟨h1.1, h2.1, by rw [hw]; exact fdiv_okF _ _ _, by rw [hw]; exact fdiv_okF _ _ _⟩
  have spr : Spr s (qr j) (qr i) := ⟨ok, by rw [hw]; exact (fin_dec _ _).2 fi, by rw [hw]; exact (fin_dec _ _).2 fj, by rw [hw]; exact ri, by rw [hw]; exact rj, h1.2.2⟩
  have q01 : ∀ i, i < 3 → 0 ≤ qr i ∧ qr i ≤ 1 := by
    intro i hi
    have : i = 0 ∨ i = 1 ∨ i = 2 := by omega
    rcases this with rfl | rfl | rfl <;> decide +kernel
  have qi := q01 i hi
  have qj := q01 j hj
  obtain ⟨hF, hP⟩ := far_path spr qi.1 qi.2 qj.1 qj.2
  have e128 : (2 : Rat) ^ 128 = 4 * 85070591730234615865843651857942052864 := by decide +kernel
  have b0 : ∀ x, In (R1 x) 4 → nearR (R1 x * U) 0 (2 ^ 128) := by
    intro x hx
    rw [e128]
    unfold nearR U
    have := hx.1
    have := hx.2
    exact ⟨by grind, by grind⟩
  obtain ⟨m, m1, m2, m3, m4⟩ := comes_near hi hj hF hP (b0 _ h1.2.1) (b0 _ h2.2.1)
  have hwm : ∀ n, (zs s n).2.2 = s.2.2 := by
    intro n
    induction n with
    | zero => rfl
    | succ n ih => exact ih
  obtain ⟨r1, r2, r3⟩ := at_rest hi hj (zs_spr spr m) (by rw [hwm, hw]) m4 m2 m3
  have fN : eqT (stepOf (zs s (m + 2)) 0) (zs s (m + 2)) = true := eqT_iff.2 r1
  obtain ⟨n, n1, n2, n3⟩ := first_of (f := fun n => eqT (stepOf (zs s n) 0) (zs s n)) (m + 2) fN
  have hst := zs_stay (eqT_iff.1 n2) (m + 2 - n)
  rw [show n + (m + 2 - n) = m + 2 by omega] at hst
  refine ⟨n, by omega, ok, n2, n3, ?_, ?_⟩
  · rw [← hst]; exact r2
  · rw [← hst]; exact r3

theorem v_FnSpringRests (code more : List Int) (hok : okPs [.ro false (.slice (.int .u8)), .ro false (.slice (.int .u8))] (code, more, ())) : g_w_FnSpringRests code more = some true := by
  have hc : ∀ x ∈ code, 0 ≤ x ∧ x ≤ 255 := fun x hx => hok.1.2 x hx
  have hm : ∀ x ∈ more, 0 ≤ x ∧ x ≤ 255 := fun x hx => hok.2.1.2 x hx
  unfold g_w_FnSpringRests
  cases hL : t_w_r8Long code more
  rotate_left
  · rfl
  obtain ⟨hcl, hml⟩ := r8Long_F hL
  obtain ⟨v, e1, v1, v2⟩ := rs_R8Small hm hml
  obtain ⟨y2, e2, a2, b2⟩ := rt_r8At (code := code) 0 3 hc (by omega)
  obtain ⟨y3, e3, a3, b3⟩ := rt_r8At (code := code) 1 3 hc (by omega)
  obtain ⟨i, rfl⟩ := Int.eq_ofNat_of_zero_le a2
  obtain ⟨j, rfl⟩ := Int.eq_ofNat_of_zero_le a3
  rw [show ((0 : Nat) : Int) = 0 from rfl, show ((3 : Nat) : Int) = 3 from rfl] at e2
  rw [show ((1 : Nat) : Int) = 1 from rfl, show ((3 : Nat) : Int) = 3 from rfl] at e3
  rw [cond_f, e1, opt_bind_some, e2, opt_bind_some, e3, opt_bind_some, iadd_ok (a := 1) (b := (i : Int)) (by omega) (by omega), iadd_ok (a := 1) (b := (j : Int)) (by omega) (by omega)]
  obtain ⟨n, n1, ok, n2, n3, n4, n5⟩ := rests (s := (v.1, (v.2.1, (qw i, (qw j, ()))))) (i := i) (j := j) (by omega) (by omega) v1 v2 rfl
  have eq : ((v.1, (v.2.1, ((fdiv .f32 (fofInt .f32 (1 + (i : Int))) 1082130432), ((fdiv .f32 (fofInt .f32 (1 + (j : Int))) 1082130432), ())))) : dTurn) = (v.1, (v.2.1, (qw i, (qw j, ())))) := rfl
  dsimp only
  rw [eq]
  generalize ((v.1, (v.2.1, (qw i, (qw j, ())))) : dTurn) = s at *
  have l1 := rest_loop ok n1 n2 n3 n 0 fuel (by omega) (by unfold fuel; omega)
  rw [show ((0 : Nat) : Int) = 0 from rfl] at l1
  have er : g_i_RestOfSpring s 0 10000 = some ((n : Int), (true, ())) := by
    unfold g_i_RestOfSpring
    rw [ilt_f (by omega), cond_f, ilt_f (by omega), cond_f]
    have l1' : iter L_i_RestOfSpring_1 fuel ((0, (10000, (0, (false, (0, ()))))), ((s, ()), ())) = some (true, (((n : Int), (true, ())), ())) := l1
    rw [l1', opt_bind_some, cond_t]
  rw [er, opt_bind_some]
  dsimp only
  rw [bnot_t, cond_f, ilt_f (by omega), cond_f, ilt_f (by omega), cond_f]
  have l2 := not_loop ok n1 n3 n 0 fuel (by omega) (by unfold fuel; omega)
  rw [show ((0 : Nat) : Int) = 0 from rfl] at l2
  have l2' : iter L_w_FnSpringRests_1 fuel ((false, ((n : Int), (0, ()))), ((s, ()), ())) = some (false, ((false, ()), ((zs s n, ()), ()))) := l2
  rw [l2', opt_bind_some]
  dsimp only
  have l3 := low_loop (zs s n) 100 0 fuel (by omega) (by unfold fuel; omega)
  rw [show ((0 : Nat) : Int) = 0 from rfl] at l3
  have l3' : iter L_w_FnSpringRests_2 fuel ((4607182418800017408, (0, ())), ((zs s n, ()), ())) = some ((lowk 100, ()), ((zs s n, ()), ())) := l3
  rw [cond_f, l3', opt_bind_some]
  dsimp only
  have okn := zs_okT ok n
  rw [c_i_StepSpring, opt_bind_some, c_SameT (stepOf_okT 0 okn) okn, opt_bind_some, n2, cond_t]
  generalize zs s n = z at *
  -- the place is small
  have ip := near_In n5
  have fp := fin_small (ip.mono (by decide +kernel))
  obtain ⟨w1, w2⟩ := wide_R okn.1.lt32 fp
  have f0 : fin .f64 0 := fin64_dec (by decide +kernel)
  have r0 : R .f64 0 = 0 := by decide +kernel
  obtain ⟨g1, g2⟩ := gap_R w1 f0 (M := 32 * (1 / 85070591730234615865843651857942052864)) (by
    rw [w2, r0]
    have e : R .f32 z.1 = R1 z.1 := rfl
    rw [e]
    have := ip.1
    have := ip.2
    exact ⟨by grind, by grind⟩) (by decide +kernel)
  obtain ⟨k1, k2⟩ := low_R
  rw [flt_R g1 k1]
  have hlt : R .f64 (t_w_r8Gap (fwide z.1) 0) < R .f64 (lowk 100) := by
    have h1 : (32 : Rat) * (1 / 85070591730234615865843651857942052864) * (1000001 / 1000000) < 1 / 1267650600228229401496703205377 := by decide +kernel
    grind
  rw [decide_eq_true hlt, cond_t]
  have hz : feq .f32 z.2.1 0 = true := by
    rcases zero_word okn.2.1 n4 with h | h <;> rw [h] <;> decide +kernel
  rw [hz]
end Go.Fw
