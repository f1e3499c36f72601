/- The reference's functions and the program's compute the same (first part). No condition. -/
import Derived.Test.YtobcfldhacdpiaaGreatFwE
import Derived.Test.YtobcfldhacdpiaaGreatAThy
set_option linter.unusedVariables false
set_option linter.unusedSimpArgs false
namespace Go.Fw

theorem se_IsFinite (x : Nat) : t_i_IsFinite x = t_s_l01Finite x := rfl

theorem se_l07Scale_loop (p : List Nat) : ∀ (n : Nat) (t2 : Bool) (t5 t6 : Int), iter L_i_IsScale_1 n ((p, (t2, (p, (t5, (t6, ()))))), ()) = iter L_s_l07Scale_1 n ((p, (t2, (t5, (t6, ())))), ())
  | 0, _, _, _ => rfl
  | n + 1, t2, t5, t6 => by
    have ih := se_l07Scale_loop p n
    rw [iter_succ, iter_succ]
    simp only [L_i_IsScale_1, L_s_l07Scale_1, ih, se_IsFinite]
    cases ix t6 p.length <;> rfl

theorem se_IsScale (p : List Nat) : g_i_IsScale p = g_s_l07Scale p := by
  unfold g_i_IsScale g_s_l07Scale
  rw [se_l07Scale_loop]

theorem rt_l07Scale (p : List Nat) (h : p.length < 4611686018427387904) : Ret (g_s_l07Scale p) fun b => b = true → (1 ≤ p.length ∧ p.length ≤ 6) ∧ ∀ j, j < p.length → t_s_l01Finite (p.getD j 0) = true := by
  unfold g_s_l07Scale
  refine Ret.bind ((Ret.iter (fun n d => ∃ i : Nat, i ≤ p.length ∧ n = p.length - i ∧ (∀ j, j < i → t_s_l01Finite (p.getD j 0) = true) ∧ d = ((p, (false, ((p.length : Int), ((i : Int), ())))), ())) (fun o => o.2.1.1 = p ∧ o.2.1.2.1 = false ∧ (o.1 = false → ∀ j, j < p.length → t_s_l01Finite (p.getD j 0) = true)) ?_ fuel p.length _ ⟨0, by omega, by omega, fun j hj => by omega, rfl⟩ (by unfold fuel; omega)).mono ?_)
  · rintro r n d ⟨i, hi, hn, hf, rfl⟩ ih
    simp only [L_s_l07Scale_1]
    refine Ret.cond (fun hc => ?_) fun hc => Ret.pure ⟨rfl, rfl, fun _ j hj => hf j (by (simp only [ilt_T, ilt_F, ile_T, ile_F, ieq_T, ieq_F, bnot_T, bnot_F, ble_T, ble_F, nz_T, nz_F, nonneg_T, nonneg_F] at hc); omega)⟩
    (simp only [ilt_T, ilt_F, ile_T, ile_F, ieq_T, ieq_F, bnot_T, bnot_F, ble_T, ble_F, nz_T, nz_F, nonneg_T, nonneg_F] at hc)
    refine Ret.ix (by omega) (by omega) ?_
    rw [iadd_ok (by omega) (by omega)]
    refine Ret.cond (fun _ => Ret.pure ⟨rfl, rfl, nofun⟩) fun hfin => ?_
    have hr := ih (n - 1) ((p, (false, ((p.length : Int), ((i : Int) + 1, ())))), ()) (by omega) ⟨i + 1, by omega, by omega, fun j hj => by
      rcases Nat.lt_or_ge j i with h1 | h1
      · exact hf j h1
      · rw [bnot_F, show ((i : Int)).toNat = j by omega] at hfin; exact hfin, rfl⟩
    refine Ret.cond (fun h0 => ?_) fun _ => hr
    (simp only [ilt_T, ilt_F, ile_T, ile_F, ieq_T, ieq_F, bnot_T, bnot_F, ble_T, ble_F, nz_T, nz_F, nonneg_T, nonneg_F] at h0)
    rw [isub_ok (by omega) (by omega)]
    refine Ret.ix (by omega) (by omega) (Ret.ix (by omega) (by omega) ?_)
    exact Ret.cond (fun _ => Ret.pure ⟨rfl, rfl, nofun⟩) fun _ => hr
  · rintro ⟨b, ⟨q, t, ⟨⟩⟩, ⟨⟩⟩ ⟨rfl, rfl, hf⟩
    refine Ret.cond (fun _ => Ret.pure (by intro h; cases h)) fun hb => Ret.cond (fun h1 => Ret.pure fun h2 => ⟨?_, hf hb⟩) fun _ => Ret.pure (by intro h; cases h)
    (simp only [ilt_T, ilt_F, ile_T, ile_F, ieq_T, ieq_F, bnot_T, bnot_F, ble_T, ble_F, nz_T, nz_F, nonneg_T, nonneg_F] at h1)
    (simp only [ilt_T, ilt_F, ile_T, ile_F, ieq_T, ieq_F, bnot_T, bnot_F, ble_T, ble_F, nz_T, nz_F, nonneg_T, nonneg_F] at h2)
    dsimp only at *
    omega

/-! MiddleOf -/
/-! PartsOfFrames -/
theorem l00In_T (a b c : Int) : (t_s_l00In a b c = true) = (b ≤ a ∧ a ≤ c) := by
  unfold t_s_l00In ile
  by_cases h : b ≤ a <;> simp [h]
theorem l00In_F (a b c : Int) : (t_s_l00In a b c = false) = ¬ (b ≤ a ∧ a ≤ c) := by
  unfold t_s_l00In ile
  by_cases h : b ≤ a <;> simp [h]

/-! WeightsAt -/
theorem se_Weights_loop (p : List Nat) (x : Nat) : ∀ (n : Nat) (i : Int) (r : List Nat), iter L_i_WeightsAt_1 n ((p, (x, (i, ()))), (r, ())) = iter L_s_l07Weights_1 n ((p, (x, (i, ()))), (r, ()))
  | 0, _, _ => rfl
  | n + 1, i, r => by
    have ih := se_Weights_loop p x n
    rw [iter_succ, iter_succ]
    simp only [L_i_WeightsAt_1, L_s_l07Weights_1, ih, fge_fle]

theorem se_WeightsAt (p : List Nat) (x : Nat) : g_i_WeightsAt p x = g_s_WeightsAt p x := by
  unfold g_i_WeightsAt g_s_WeightsAt g_s_l07Weights
  simp only [se_IsScale, opt_bind_assoc, opt_bind_cond, opt_bind_some, opt_bind_none, se_Weights_loop]

end Go.Fw
