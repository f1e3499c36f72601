/- The reference's functions and the program's compute the same (first part). No condition. -/
import Derived.Test.YtijmellgdjcofaaFwD
import Derived.Test.YtijmellgdjcofaaAThy
set_option linter.unusedVariables false
set_option linter.unusedSimpArgs false
namespace Go.Fw

theorem se_IsFinite (x : Nat) : t_i_IsFinite x = t_s_l01Finite x := rfl

theorem se_l07Scale_loop (p : List Nat) : ∀ (n : Nat) (t2 : Bool) (t5 t6 : Int), iter L_i_IsScale_1 n ((p, (t2, (p, (t5, (t6, ()))))), ()) = iter L_s_l07Scale_1 n ((p, (t2, (t5, (t6, ())))), ())
  | 0, _, _, _ => rfl
  | n + 1, t2, t5, t6 => by
    have ih := se_l07Scale_loop p n
    rw [iter_succ, iter_succ]
    simp only [L_i_IsScale_1, L_s_l07Scale_1, ih, se_IsFinite]
    cases ix t6 p.length <;> rfl

theorem se_IsScale (p : List Nat) : g_i_IsScale p = g_s_l07Scale p := by
  unfold g_i_IsScale g_s_l07Scale
  rw [se_l07Scale_loop]

theorem rt_l07Scale (p : List Nat) (h : p.length < 4611686018427387904) : Ret (g_s_l07Scale p) fun b => b = true → (1 ≤ p.length ∧ p.length ≤ 6) ∧ ∀ j, j < p.length → t_s_l01Finite (p.getD j 0) = true := by
  unfold g_s_l07Scale
  refine Ret.bind ((Ret.iter (fun n d => ∃ i : Nat, i ≤ p.length ∧ n = p.length - i ∧ (∀ j, j < i → t_s_l01Finite (p.getD j 0) = true) ∧ d = ((p, (false, ((p.length : Int), ((i : Int), ())))), ())) (fun o => o.2.1.1 = p ∧ o.2.1.2.1 = false ∧ (o.1 = false → ∀ j, j < p.length → t_s_l01Finite (p.getD j 0) = true)) ?_ fuel p.length _ ⟨0, by omega, by omega, fun j hj => by omega, rfl⟩ (by unfold fuel; omega)).mono ?_)
  · rintro r n d ⟨i, hi, hn, hf, rfl⟩ ih
    simp only [L_s_l07Scale_1]
    refine Ret.cond (fun hc => ?_) fun hc => Ret.pure ⟨rfl, rfl, fun _ j hj => hf j (by (simp only [ilt_T, ilt_F, ile_T, ile_F, ieq_T, ieq_F, bnot_T, bnot_F, ble_T, ble_F, nz_T, nz_F, nonneg_T, nonneg_F] at hc); omega)⟩
    (simp only [ilt_T, ilt_F, ile_T, ile_F, ieq_T, ieq_F, bnot_T, bnot_F, ble_T, ble_F, nz_T, nz_F, nonneg_T, nonneg_F] at hc)
    refine Ret.ix (by omega) (by omega) ?_
    rw [iadd_ok (by omega) (by omega)]
    refine Ret.cond (fun _ => Ret.pure ⟨rfl, rfl, nofun⟩) fun hfin => ?_
    have hr := ih (n - 1) ((p, (false, ((p.length : Int), ((i : Int) + 1, ())))), ()) (by omega) ⟨i + 1, by omega, by omega, fun j hj => by
      rcases Nat.lt_or_ge j i with h1 | h1
      · exact hf j h1
      · rw [bnot_F, show ((i : Int)).toNat = j by omega] at hfin; exact hfin, rfl⟩
    refine Ret.cond (fun h0 => ?_) fun _ => hr
    (simp only [ilt_T, ilt_F, ile_T, ile_F, ieq_T, ieq_F, bnot_T, bnot_F, ble_T, ble_F, nz_T, nz_F, nonneg_T, nonneg_F] at h0)
    rw [isub_ok (by omega) (by omega)]
    refine Ret.ix (by omega) (by omega) (Ret.ix (by omega) (by omega) ?_)
    exact Ret.cond (fun _ => Ret.pure ⟨rfl, rfl, nofun⟩) fun _ => hr
  · rintro ⟨b, ⟨q, t, ⟨⟩⟩, ⟨⟩⟩ ⟨rfl, rfl, hf⟩
    refine Ret.cond (fun _ => Ret.pure (by intro h; cases h)) fun hb => Ret.cond (fun h1 => Ret.pure fun h2 => ⟨?_, hf hb⟩) fun _ => Ret.pure (by intro h; cases h)
    (simp only [ilt_T, ilt_F, ile_T, ile_F, ieq_T, ieq_F, bnot_T, bnot_F, ble_T, ble_F, nz_T, nz_F, nonneg_T, nonneg_F] at h1)
    (simp only [ilt_T, ilt_F, ile_T, ile_F, ieq_T, ieq_F, bnot_T, bnot_F, ble_T, ble_F, nz_T, nz_F, nonneg_T, nonneg_F] at h2)
    dsimp only at *
    omega

theorem e_IsScale (p : List Nat) (h : (szL z_F32 p : Int) ≤ 1048576) (hok : okPs [.ro false (.slice (.flt .f32))] (p, ())) : Same (g_s_IsScale p) (g_i_IsScale p) fun b => True := by
  have hl := szL_len (s := z_F32) p
  unfold g_s_IsScale
  rw [opt_bind_pure]
  exact Same.of (se_IsScale p).symm ((rt_l07Scale p (by omega)).mono fun _ _ => trivial)

/-! MiddleOf -/
theorem se_AddVectors (a b : dVec) : t_i_AddVectors a b = t_s_l01Add a b := rfl
theorem se_ScaleVector (a : dVec) (b : Nat) : t_i_ScaleVector a b = t_s_l01Scale a b := rfl
theorem se_LessVectors (a b : dVec) : t_i_LessVectors a b = t_s_l01Less a b := rfl
theorem se_InnerOf (a b : dVec) : t_i_InnerOf a b = t_s_l01Inner a b := rfl

theorem se_MiddleOf_loop (p : List dVec) : ∀ (n : Nat) (t17 t18 : Int) (b0 b1 : dVec), iter L_i_MiddleOf_1 n ((p, (p, (t17, (t18, ())))), ((b0, ()), ((b1, ()), ()))) = iter L_s_MiddleOf_1 n ((p, (t17, (t18, ()))), ((b0, ()), ((b1, ()), ())))
  | 0, _, _, _, _ => rfl
  | n + 1, t17, t18, b0, b1 => by
    have ih := se_MiddleOf_loop p n
    rw [iter_succ, iter_succ]
    simp only [L_i_MiddleOf_1, L_s_MiddleOf_1, ih, se_AddVectors]

theorem se_MiddleOf (p : List dVec) : g_i_MiddleOf p = g_s_MiddleOf p := by
  unfold g_i_MiddleOf g_s_MiddleOf
  simp only [se_MiddleOf_loop, se_ScaleVector]

theorem rt_MiddleOf (p : List dVec) (h : p.length < 4611686018427387904) : Ret (g_s_MiddleOf p) fun _ => True := by
  unfold g_s_MiddleOf
  refine Ret.cond (fun _ => Ret.pure trivial) fun _ => Ret.cond (fun _ => Ret.pure trivial) fun _ => ?_
  refine Ret.bind ((Ret.iter (fun n d => ∃ (i : Nat) (b0 b1 : dVec), i ≤ p.length ∧ n = p.length - i ∧ d = ((p, ((p.length : Int), ((i : Int), ()))), ((b0, ()), ((b1, ()), ())))) (fun o => True) ?_ fuel p.length _ ⟨0, _, _, by omega, by omega, rfl⟩ (by unfold fuel; omega)).mono fun _ _ => Ret.pure trivial)
  rintro r n d ⟨i, b0, b1, hi, hn, rfl⟩ ih
  simp only [L_s_MiddleOf_1]
  refine Ret.cond (fun hc => ?_) fun hc => Ret.pure trivial
  (simp only [ilt_T, ilt_F, ile_T, ile_F, ieq_T, ieq_F, bnot_T, bnot_F, ble_T, ble_F, nz_T, nz_F, nonneg_T, nonneg_F] at hc)
  refine Ret.ix (by omega) (by omega) ?_
  rw [iadd_ok (by omega) (by omega)]
  exact ih (n - 1) _ (by omega) ⟨i + 1, _, _, by omega, by omega, rfl⟩

theorem e_MiddleOf (p : List dVec) (h : (szL z_Vec p : Int) ≤ 1048576) (hok : okPs [.ro false (.slice tVec)] (p, ())) : Same (g_s_MiddleOf p) (g_i_MiddleOf p) fun _ => True := by
  have hl := szL_len (s := z_Vec) p
  exact Same.of (se_MiddleOf p).symm (rt_MiddleOf p (by omega))

/-! PartsOfFrames -/
theorem se_areWorkers (w : Int) : t_i_areWorkers w = t_s_l00In w 1 8 := rfl
theorem l00In_T (a b c : Int) : (t_s_l00In a b c = true) = (b ≤ a ∧ a ≤ c) := by
  unfold t_s_l00In ile
  by_cases h : b ≤ a <;> simp [h]
theorem l00In_F (a b c : Int) : (t_s_l00In a b c = false) = ¬ (b ≤ a ∧ a ≤ c) := by
  unfold t_s_l00In ile
  by_cases h : b ≤ a <;> simp [h]

theorem se_Parts_loop (count workers : Int) : ∀ (n : Nat) (f k : Int) (r : List (List Int)), iter L_i_PartsOfFrames_1 n ((count, (workers, (f, (workers, (k, ()))))), (r, ())) = iter L_s_l10Parts_1 n ((count, (workers, (f, (k, ())))), (r, ()))
  | 0, _, _, _ => rfl
  | n + 1, f, k, r => by
    have ih := se_Parts_loop count workers n
    rw [iter_succ, iter_succ]
    simp only [L_i_PartsOfFrames_1, L_s_l10Parts_1, ih]

theorem se_PartsOfFrames (c w : Int) : g_i_PartsOfFrames c w = g_s_PartsOfFrames c w := by
  unfold g_i_PartsOfFrames g_s_PartsOfFrames g_s_l10Parts
  simp only [se_Parts_loop, se_areWorkers, ilt_not]
  unfold t_s_l00In
  cases ile 0 c <;> cases ile c 64 <;> cases ile 1 w <;> cases ile w 8 <;> simp only [bnot_t, bnot_f, cond_t, cond_f]
  simp only [List.append_nil]
  cases iter L_s_l10Parts_1 fuel ((c, w, 0, 0, ()), [], ()) <;> rfl

theorem rt_PartsOfFrames (c w : Int) : Ret (g_s_PartsOfFrames c w) fun y => szL z_I64S y.1 ≤ 1048576 := by
  unfold g_s_PartsOfFrames g_s_l10Parts
  refine Ret.cond (fun _ => Ret.pure (by simp [szL])) fun h1 => Ret.cond (fun _ => Ret.pure (by simp [szL])) fun h2 => ?_
  rw [bnot_F, l00In_T] at h1 h2
  refine Ret.bind (Ret.bind ((Ret.iter (fun n d => ∃ (i : Nat) (f : Int) (r : List (List Int)), (i : Int) ≤ w ∧ n = w.toNat - i ∧ r.length = i ∧ szL z_I64S r = 3 * i ∧ d = ((c, (w, (f, ((i : Int), ())))), (r, ()))) (fun o => szL z_I64S o.2.1 ≤ 24) ?_ fuel w.toNat _ ⟨0, _, _, by omega, by omega, rfl, by simp [szL], rfl⟩ (by unfold fuel; omega)).mono fun y hy => Ret.pure (Ret.pure ?_)))
  · rintro r n d ⟨i, f, l, hi, hn, hl, hz, rfl⟩ ih
    simp only [L_s_l10Parts_1]
    refine Ret.cond (fun hc => ?_) fun hc => Ret.pure (by show szL z_I64S l ≤ 24; omega)
    (simp only [ilt_T, ilt_F, ile_T, ile_F, ieq_T, ieq_F, bnot_T, bnot_F, ble_T, ble_F, nz_T, nz_F, nonneg_T, nonneg_F] at hc)
    rw [nz_t (show w ≠ 0 by omega), cond_t]
    simp only [cond_t]
    rw [iadd_ok (show -9223372036854775808 ≤ (i : Int) + 1 by omega) (by omega)]
    refine Ret.cond (fun _ => ?_) fun _ => ?_
    · rw [ble_t (by simp; omega), cond_t]
      exact ih (n - 1) _ (by omega) ⟨i + 1, _, _, by omega, by omega, by simp; omega, by simp [szL_append, szL, z_I64S, z_I64]; omega, rfl⟩
    · rw [ble_t (by simp; omega), cond_t]
      exact ih (n - 1) _ (by omega) ⟨i + 1, _, _, by omega, by omega, by simp; omega, by simp [szL_append, szL, z_I64S, z_I64]; omega, rfl⟩
  · show szL z_I64S y.2.1 ≤ 1048576
    have : szL z_I64S y.2.1 ≤ 24 := hy
    omega

theorem e_PartsOfFrames (c w : Int) (hok : okPs [.ro false (.int .i64), .ro false (.int .i64)] (c, w, ())) : Same (g_s_PartsOfFrames c w) (g_i_PartsOfFrames c w) fun y => szL z_I64S y.1 ≤ 1048576 :=
  Same.of (se_PartsOfFrames c w).symm (rt_PartsOfFrames c w)

/-! WeightsAt -/
theorem se_Weights_loop (p : List Nat) (x : Nat) : ∀ (n : Nat) (i : Int) (r : List Nat), iter L_i_WeightsAt_1 n ((p, (x, (i, ()))), (r, ())) = iter L_s_l07Weights_1 n ((p, (x, (i, ()))), (r, ()))
  | 0, _, _ => rfl
  | n + 1, i, r => by
    have ih := se_Weights_loop p x n
    rw [iter_succ, iter_succ]
    simp only [L_i_WeightsAt_1, L_s_l07Weights_1, ih, fge_fle]

theorem se_WeightsAt (p : List Nat) (x : Nat) : g_i_WeightsAt p x = g_s_WeightsAt p x := by
  unfold g_i_WeightsAt g_s_WeightsAt g_s_l07Weights
  simp only [se_IsScale, opt_bind_assoc, opt_bind_cond, opt_bind_some, opt_bind_none, se_Weights_loop]

theorem rt_WeightsAt (p : List Nat) (x : Nat) (h : p.length < 4611686018427387904) : Ret (g_s_WeightsAt p x) fun y => szL z_F32 y.1 ≤ 1048576 := by
  unfold g_s_WeightsAt
  have hz : ∀ l : List Nat, szL z_F32 l = l.length := szL_zero
  refine Ret.bind' (rt_l07Scale p h) fun b _ hb => Ret.cond (fun _ => Ret.pure (by simp [szL])) fun h1 => Ret.cond (fun _ => Ret.pure (by simp [szL])) fun hx => ?_
  rw [bnot_F] at h1 hx
  obtain ⟨⟨l1, l2⟩, hfin⟩ := hb h1
  have hp : ∀ q : List Nat, q.length = p.length → szL z_F32 q ≤ 1048576 := fun q hq => by rw [hz]; omega
  unfold g_s_l07Weights
  rw [mkOk_t (by omega) (by omega) (by omega), cond_t, isub_ok (by omega) (by omega)]
  refine Ret.bind (Ret.ix (by omega) (by omega) (Ret.cond (fun _ => Ret.ix (by omega) (by simp; omega) (Ret.pure (Ret.pure (hp _ (by simp))))) fun h0 => Ret.ix (by omega) (by omega) (Ret.cond (fun _ => Ret.ix (by omega) (by simp; omega) (Ret.pure (Ret.pure (hp _ (by simp))))) fun hl => ?_)))
  refine Ret.bind ((Ret.iter (fun n d => ∃ i : Nat, i + 1 ≤ p.length - 1 ∧ n = p.length - i ∧ d = ((p, (x, ((i : Int), ()))), (List.replicate p.length 0, ()))) (fun o => ∃ i : Nat, i + 1 < p.length ∧ o = ((p, (x, ((i : Int), ()))), (List.replicate p.length 0, ()))) ?_ fuel p.length _ ⟨0, ?_, by omega, rfl⟩ (by unfold fuel; omega)).mono ?_)
  · rintro r n d ⟨i, hi, hn, rfl⟩ ih
    simp only [L_s_l07Weights_1]
    rw [iadd_ok (by omega) (by omega)]
    refine Ret.ix (by omega) (by omega) (Ret.cond (fun hc => ?_) fun _ => Ret.pure ⟨i, by omega, rfl⟩)
    refine ih (n - 1) _ (by omega) ⟨i + 1, ?_, by omega, rfl⟩
    rcases Nat.lt_or_ge (i + 1) (p.length - 1) with h5 | h5
    · omega
    · exfalso
      rw [fge_fle, show ((p.length : Int) - 1).toNat = ((i : Int) + 1).toNat by omega, hc] at hl
      cases hl
  · rcases Nat.lt_or_ge 1 p.length with h5 | h5
    · omega
    · exfalso
      rw [show ((p.length : Int) - 1).toNat = 0 by omega, fge_fle] at hl
      rw [show (0 : Int).toNat = 0 from rfl] at h0
      rcases fle_total (not_nan_of_feq hx) (not_nan_of_finite (hfin 0 (by omega))) with h6 | h6
      · rw [h6] at h0; cases h0
      · rw [h6] at hl; cases hl
  · rintro _ ⟨i, hi, rfl⟩
    dsimp only
    rw [iadd_ok (by omega) (by omega)]
    refine Ret.ix (by omega) (by omega) (Ret.ix (by omega) (by omega) (Ret.ix (by omega) (by omega) (Ret.ix (by omega) (by simp; omega) (Ret.ix (by omega) (by simp; omega) (Ret.pure (Ret.pure (hp _ (by simp))))))))

theorem e_WeightsAt (p : List Nat) (x : Nat) (h : (szL z_F32 p : Int) ≤ 1048576) (hok : okPs [.ro false (.slice (.flt .f32)), .ro false (.flt .f32)] (p, x, ())) : Same (g_s_WeightsAt p x) (g_i_WeightsAt p x) fun y => szL z_F32 y.1 ≤ 1048576 := by
  have hl := szL_len (s := z_F32) p
  exact Same.of (se_WeightsAt p x).symm (rt_WeightsAt p x (by omega))
end Go.Fw
