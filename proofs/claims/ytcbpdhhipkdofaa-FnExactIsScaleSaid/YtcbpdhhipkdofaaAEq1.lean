/- The reference's functions and the program's compute the same (first part). No condition. -/
import Derived.Test.YtcbpdhhipkdofaaFwPlain2
import Derived.Test.YtcbpdhhipkdofaaAThy
set_option linter.unusedVariables false
set_option linter.unusedSimpArgs false
namespace Go.Fw

theorem se_IsFinite (x : Nat) : t_i_IsFinite x = t_s_l01Finite x := rfl

theorem se_l07Scale_loop (p : List Nat) : ∀ (n : Nat) (t2 : Bool) (t5 t6 : Int), iter L_i_IsScale_1 n ((p, (t2, (p, (t5, (t6, ()))))), ()) = iter L_s_l07Scale_1 n ((p, (t2, (t5, (t6, ())))), ())
  | 0, _, _, _ => rfl
  | n + 1, t2, t5, t6 => by
    have ih := se_l07Scale_loop p n
    rw [iter_succ, iter_succ]
    simp only [L_i_IsScale_1, L_s_l07Scale_1, ih, se_IsFinite]
    cases ix t6 p.length <;> rfl

theorem se_IsScale (p : List Nat) : g_i_IsScale p = g_s_l07Scale p := by
  unfold g_i_IsScale g_s_l07Scale
  rw [se_l07Scale_loop]

theorem rt_l07Scale (p : List Nat) (h : p.length < 4611686018427387904) : Ret (g_s_l07Scale p) fun b => b = true → 1 ≤ p.length ∧ p.length ≤ 6 := by
  unfold g_s_l07Scale
  refine Ret.bind ((Ret.iter (fun n d => ∃ i : Nat, i ≤ p.length ∧ n = p.length - i ∧ d = ((p, (false, ((p.length : Int), ((i : Int), ())))), ())) (fun o => o.2.1.1 = p ∧ o.2.1.2.1 = false) ?_ fuel p.length _ ⟨0, by omega, by omega, rfl⟩ (by unfold fuel; omega)).mono ?_)
  · rintro r n d ⟨i, hi, hn, rfl⟩ ih
    simp only [L_s_l07Scale_1]
    refine Ret.cond (fun hc => ?_) fun hc => Ret.pure ⟨rfl, rfl⟩
    (simp only [ilt_T, ilt_F, ile_T, ile_F, ieq_T, ieq_F, bnot_T, bnot_F, ble_T, ble_F, nz_T, nz_F, nonneg_T, nonneg_F] at hc)
    refine Ret.ix (by omega) (by omega) ?_
    have hr := ih (n - 1) ((p, (false, ((p.length : Int), ((i : Int) + 1, ())))), ()) (by omega) ⟨i + 1, by omega, by omega, rfl⟩
    rw [iadd_ok (by omega) (by omega)]
    refine Ret.cond (fun _ => Ret.pure ⟨rfl, rfl⟩) fun _ => Ret.cond (fun h0 => ?_) fun _ => hr
    (simp only [ilt_T, ilt_F, ile_T, ile_F, ieq_T, ieq_F, bnot_T, bnot_F, ble_T, ble_F, nz_T, nz_F, nonneg_T, nonneg_F] at h0)
    rw [isub_ok (by omega) (by omega)]
    refine Ret.ix (by omega) (by omega) (Ret.ix (by omega) (by omega) ?_)
    exact Ret.cond (fun _ => Ret.pure ⟨rfl, rfl⟩) fun _ => hr
  · rintro ⟨b, ⟨q, t, ⟨⟩⟩, ⟨⟩⟩ ⟨rfl, rfl⟩
    refine Ret.cond (fun _ => Ret.pure (by intro h; cases h)) fun _ => Ret.cond (fun h1 => Ret.pure fun h2 => ?_) fun _ => Ret.pure (by intro h; cases h)
    (simp only [ilt_T, ilt_F, ile_T, ile_F, ieq_T, ieq_F, bnot_T, bnot_F, ble_T, ble_F, nz_T, nz_F, nonneg_T, nonneg_F] at h1)
    (simp only [ilt_T, ilt_F, ile_T, ile_F, ieq_T, ieq_F, bnot_T, bnot_F, ble_T, ble_F, nz_T, nz_F, nonneg_T, nonneg_F] at h2)
    dsimp only at *
    omega

theorem e_IsScale (p : List Nat) (h : p.length < 4611686018427387904) : Same (g_s_IsScale p) (g_i_IsScale p) fun b => b = true → 1 ≤ p.length ∧ p.length ≤ 6 := by
  unfold g_s_IsScale
  rw [opt_bind_pure]
  exact Same.of (se_IsScale p).symm (rt_l07Scale p h)

theorem v_FnExactIsScale (a : List Nat) (hok : okPs [.ro false (.slice (.flt .f32))] (a, ())) : g_w_FnExactIsScale a = some true := by
  unfold g_w_FnExactIsScale
  by_cases hc : (1048576 : Int) < a.length
  · rw [ilt_t hc]; rfl
  · have hz : szL z_F32 a = a.length := szL_zero a
    rw [ilt_f (by omega), cond_f]
    obtain ⟨y, hs, hi, _⟩ := e_IsScale a (by omega)
    simp (disch := first | assumption | omega) only [c_w_toFloat32S, c_w_eqFloat32S, hs, hi, opt_bind_some, beqB_self, bnot_t, cond_f]
end Go.Fw
