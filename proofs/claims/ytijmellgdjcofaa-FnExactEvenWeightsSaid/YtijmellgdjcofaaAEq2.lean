/- The reference's functions and the program's compute the same (second part). No condition. -/
import Derived.Test.YtijmellgdjcofaaAEq1
set_option linter.unusedVariables false
set_option linter.unusedSimpArgs false
namespace Go.Fw

theorem se_PoseOfNumbers_loop (l : List Nat) (m : Nat) (b0 c b1 : dVec) (hl : l.length = 4 * m + 3) (hm : m ≤ 12) :
    Ret2 (iter L_s_l10Pose_1 fuel ((l, (3, ())), ((c, ()), ([], ((b1, ()), ()))))) (iter L_i_PoseOfNumbers_1 fuel ((l, ((l.length : Int), (3, ()))), ((b0, ()), ((b1, ()), ([], ()))))) fun o o' => o.2.2.2.1.1 = b1 ∧ o'.2.2.1.1 = b1 ∧ o.2.2.1 = o'.2.2.2.1 ∧ szL z_Turn o.2.2.1 ≤ 12 := by
  refine Ret2.iter (fun n d e => ∃ (k : Nat) (r : List dTurn), k ≤ m ∧ n = m - k ∧ r.length = k ∧ d = ((l, (3 + 4 * (k : Int), ())), ((c, ()), (r, ((b1, ()), ())))) ∧ e = ((l, ((l.length : Int), (3 + 4 * (k : Int), ()))), ((b0, ()), ((b1, ()), (r, ()))))) _ ?_ fuel m _ _ ⟨0, [], by omega, by omega, rfl, rfl, rfl⟩ (by unfold fuel; omega)
  rintro r r' n d e ⟨k, q, hk, hn, hq, rfl, rfl⟩ ih
  simp only [L_s_l10Pose_1, L_i_PoseOfNumbers_1]
  refine Ret2.cond rfl (fun hc => ?_) fun hc => Ret2.pure ⟨rfl, rfl, rfl, ?_⟩
  · (simp only [ilt_T, ilt_F, ile_T, ile_F, ieq_T, ieq_F, bnot_T, bnot_F, ble_T, ble_F, nz_T, nz_F, nonneg_T, nonneg_F] at hc)
    rw [iadd_ok (by omega) (by omega), iadd_ok (by omega) (by omega), iadd_ok (by omega) (by omega), iadd_ok (by omega) (by omega)]
    rw [ix_ok (by omega) (by omega), ix_ok (by omega) (by omega), ix_ok (by omega) (by omega), ix_ok (by omega) (by omega), ble_t (by omega)]
    simp only [opt_bind_some, cond_t]
    refine ih (n - 1) _ _ (by omega) ⟨k + 1, q ++ [(l.getD (3 + 4 * (k : Int)).toNat 0, l.getD (3 + 4 * (k : Int) + 1).toNat 0, l.getD (3 + 4 * (k : Int) + 2).toNat 0, l.getD (3 + 4 * (k : Int) + 3).toNat 0, ())], by omega, by omega, by simp; omega, ?_, ?_⟩
    · rw [show 3 + 4 * ((k + 1 : Nat) : Int) = 3 + 4 * (k : Int) + 4 by omega]
    · rw [show 3 + 4 * ((k + 1 : Nat) : Int) = 3 + 4 * (k : Int) + 4 by omega]
  · show szL z_Turn q ≤ 12
    rw [show szL z_Turn q = q.length from szL_zero q]; omega

theorem e_PoseOfNumbers (l : List Nat) (h : (szL z_F32 l : Int) ≤ 1048576) (hok : okPs [.ro false (.slice (.flt .f32))] (l, ())) : Same (g_s_PoseOfNumbers l) (g_i_PoseOfNumbers l) fun y => z_Pose y.1 ≤ 1048576 := by
  have hl := szL_len (s := z_F32) l
  unfold g_s_PoseOfNumbers g_i_PoseOfNumbers
  dsimp only
  rw [irem_nn (by omega)]
  have hnil : z_Pose ((0, 0, 0, ()), [], ()) ≤ 1048576 := by decide
  by_cases h7 : l.length < 7
  · rw [ilt_t (a := (l.length : Int)) (by omega), cond_t]
    by_cases h3 : (l.length : Int) % 4 = 3
    · have : l.length = 3 := by omega
      rw [this]
      exact Same.pure hnil
    · rw [ieq_f h3, bnot_f, cond_t]; exact Same.pure hnil
  · rw [ilt_f (by omega), cond_f, isub_ok (by omega) (by omega), irem_nn (by omega), iquo_nn (by omega) (by omega) (by omega)]
    by_cases h3 : (l.length : Int) % 4 = 3
    · rw [ieq_t h3, bnot_t, cond_f, ieq_t (by omega), bnot_t, cond_f]
      unfold t_s_l06Count
      by_cases h5 : ((l.length : Int) - 3) / 4 ≤ 12
      · rw [(l00In_T _ _ _).mpr ⟨by omega, h5⟩, bnot_t, cond_f, ilt_f h5, cond_f]
        unfold g_s_l10Pose
        rw [ix_ok (i := 0) (by omega) (by omega), ix_ok (i := 1) (by omega) (by omega), ix_ok (i := 2) (by omega) (by omega)]
        simp only [opt_bind_some, opt_bind_assoc]
        refine Ret2.same (Ret2.bind' (se_PoseOfNumbers_loop l ((l.length - 3) / 4) _ _ _ (by omega) (by omega)) ?_)
        rintro o o' ⟨e1, e2, e3, e4⟩
        refine Ret2.pure ⟨?_, ?_⟩
        · rw [e1, e2, e3]
        · show szL z_Turn o.2.2.1 ≤ 1048576
          omega
      · rw [(l00In_F _ _ _).mpr (by omega), bnot_f, cond_t, ilt_t (by omega), cond_t]
        exact Same.pure hnil
    · rw [ieq_f h3, bnot_f, cond_t, ieq_f (by omega), bnot_f, cond_t]
      exact Same.pure hnil

/-! ValidString -/
theorem e_ValidString (s : dString) (h : (z_String s : Int) ≤ 1048576) (hok : okPs [.ro true tString] (s, ())) : t_i_ValidString s = t_s_ValidString s := rfl

/-! FarthestMove -/
theorem se_RootNumber (x : Nat) : g_i_RootNumber x = g_s_l01Sqrt x := by
  unfold g_i_RootNumber g_s_l01Sqrt g_s_l01Narrow
  simp only [opt_bind_pure]
theorem rt_l01Sqrt {x : Nat} (hx : okF .f32 x) : Ret (g_s_l01Sqrt x) fun r => okF .f32 r := by
  unfold g_s_l01Sqrt g_s_l01Narrow
  simp only [opt_bind_pure]
  obtain ⟨r, hr, hk⟩ := root_okF hx.lt32
  exact ⟨r, hr, hk⟩
theorem se_LongOf (v : dVec) : g_i_LongOf v = g_s_l01Long v := by
  unfold g_i_LongOf g_s_l01Long
  rw [se_RootNumber, se_InnerOf]
theorem rt_l01Long (v : dVec) : Ret (g_s_l01Long v) fun r => okF .f32 r := by
  unfold g_s_l01Long
  rw [opt_bind_pure]
  exact rt_l01Sqrt (fadd_okF _ _ _)

theorem se_FarthestMove_loop (a b : List dVec) : ∀ (n : Nat) (best : Int) (most : Nat) (t35 t36 : Int), iter L_i_FarthestMove_1 n ((a, (b, (best, (most, (t35, (t36, ())))))), ()) = iter L_s_FarthestMove_1 n ((a, (b, (best, (most, (t35, (t36, ())))))), ())
  | 0, _, _, _, _ => rfl
  | n + 1, best, most, t35, t36 => by
    have ih := se_FarthestMove_loop a b n
    rw [iter_succ, iter_succ]
    simp only [L_i_FarthestMove_1, L_s_FarthestMove_1, ih, se_LongOf, se_LessVectors]
    cases feq .f32 most most
    · rfl
    · simp only [bnot_t, cond_f, cond_same]

theorem se_FarthestMove (a b : List dVec) : g_i_FarthestMove a b = g_s_FarthestMove a b := by
  unfold g_i_FarthestMove g_s_FarthestMove
  simp only [se_FarthestMove_loop, se_LongOf, se_LessVectors]
  rw [ieq_comm (b.length : Int)]

theorem rt_FarthestMove (a b : List dVec) (ha : a.length < 4611686018427387904) : Ret (g_s_FarthestMove a b) fun _ => True := by
  unfold g_s_FarthestMove
  refine Ret.cond (fun _ => Ret.pure trivial) fun h1 => Ret.cond (fun _ => Ret.pure trivial) fun h2 => Ret.cond (fun _ => Ret.pure trivial) fun h3 => ?_
  (simp only [ilt_T, ilt_F, ile_T, ile_F, ieq_T, ieq_F, bnot_T, bnot_F, ble_T, ble_F, nz_T, nz_F, nonneg_T, nonneg_F] at h1)
  (simp only [ilt_T, ilt_F, ile_T, ile_F, ieq_T, ieq_F, bnot_T, bnot_F, ble_T, ble_F, nz_T, nz_F, nonneg_T, nonneg_F] at h2)
  (simp only [ilt_T, ilt_F, ile_T, ile_F, ieq_T, ieq_F, bnot_T, bnot_F, ble_T, ble_F, nz_T, nz_F, nonneg_T, nonneg_F] at h3)
  refine Ret.ix (by omega) (by omega) (Ret.ix (by omega) (by omega) (Ret.bind' (rt_l01Long _) fun y3 _ _ => ?_))
  refine Ret.bind ((Ret.iter (fun n d => ∃ (i : Nat) (best : Int) (most : Nat), i ≤ a.length ∧ n = a.length - i ∧ d = ((a, (b, (best, (most, ((a.length : Int), ((i : Int), ())))))), ())) (fun o => True) ?_ fuel a.length _ ⟨0, _, _, by omega, by omega, rfl⟩ (by unfold fuel; omega)).mono fun _ _ => Ret.pure trivial)
  rintro r n d ⟨i, best, most, hi, hn, rfl⟩ ih
  simp only [L_s_FarthestMove_1]
  refine Ret.cond (fun hc => ?_) fun hc => Ret.pure trivial
  (simp only [ilt_T, ilt_F, ile_T, ile_F, ieq_T, ieq_F, bnot_T, bnot_F, ble_T, ble_F, nz_T, nz_F, nonneg_T, nonneg_F] at hc)
  rw [iadd_ok (by omega) (by omega)]
  refine Ret.ix (by omega) (by omega) (Ret.ix (by omega) (by omega) (Ret.bind' (rt_l01Long _) fun y4 _ _ => ?_))
  have g : ∀ best most, Ret (r ((a, (b, (best, (most, ((a.length : Int), ((i : Int) + 1, ())))))), ())) fun _ => True := fun best most => ih (n - 1) _ (by omega) ⟨i + 1, best, most, by omega, by omega, rfl⟩
  exact Ret.cond (fun _ => g _ _) fun _ => Ret.cond (fun _ => Ret.cond (fun _ => g _ _) fun _ => g _ _) fun _ => g _ _

theorem e_FarthestMove (a b : List dVec) (ha : (szL z_Vec a : Int) ≤ 1048576) (hb : (szL z_Vec b : Int) ≤ 1048576) (hok : okPs [.ro false (.slice tVec), .ro false (.slice tVec)] (a, b, ())) : Same (g_s_FarthestMove a b) (g_i_FarthestMove a b) fun _ => True := by
  have hl := szL_len (s := z_Vec) a
  exact Same.of (se_FarthestMove a b).symm (rt_FarthestMove a b (by omega))

/-! NumbersOfPose -/
theorem se_isPose (p : dPose) : t_i_isPose p = t_s_l03Few p := rfl
theorem se_listed_loop (p : dPose) : ∀ (n : Nat) (i : Int) (r : List Nat), iter L_i_listed_1 n ((p.2.1, ((p.2.1.length : Int), (i, ()))), (r, ())) = iter L_s_l10Numbers_1 n ((p, (i, ())), (r, ()))
  | 0, _, _ => rfl
  | n + 1, i, r => by
    have ih := se_listed_loop p n
    rw [iter_succ, iter_succ]
    simp only [L_i_listed_1, L_s_l10Numbers_1, t_s_l06List, ih]
    rfl
theorem se_listed (p : dPose) : g_i_listed p = g_s_l10Numbers p := by
  unfold g_i_listed g_s_l10Numbers
  rw [se_listed_loop]
theorem l03Few_T (p : dPose) : (t_s_l03Few p = true) = (1 ≤ p.2.1.length ∧ p.2.1.length ≤ 12) := by
  unfold t_s_l03Few ile
  rw [eq_iff_iff]
  by_cases h : (1 : Int) ≤ p.2.1.length
  · rw [decide_eq_true h, cond_t, decide_eq_true_eq]; omega
  · rw [decide_eq_false h, cond_f]; constructor
    · intro h; cases h
    · omega
theorem rt_l10Numbers (p : dPose) (h : p.2.1.length ≤ 12) (hk : (Ty.slice tTurn).ok p.2.1) (hr : tVec.ok p.1) : Ret (g_s_l10Numbers p) fun y => y.length = 3 + 4 * p.2.1.length ∧ ∀ x ∈ y, okF .f32 x := by
  unfold g_s_l10Numbers
  refine Ret.bind ((Ret.iter (fun n d => ∃ (i : Nat) (r : List Nat), i ≤ p.2.1.length ∧ n = p.2.1.length - i ∧ r.length = 3 + 4 * i ∧ (∀ x ∈ r, okF .f32 x) ∧ d = ((p, ((i : Int), ())), (r, ()))) (fun o => o.2.1.length = 3 + 4 * p.2.1.length ∧ ∀ x ∈ o.2.1, okF .f32 x) ?_ fuel p.2.1.length _ ⟨0, _, by omega, by omega, rfl, ?_, rfl⟩ (by unfold fuel; omega)).mono fun y hy => Ret.pure hy)
  · rintro r n d ⟨i, q, hi, hn, hq, hf, rfl⟩ ih
    simp only [L_s_l10Numbers_1]
    refine Ret.cond (fun hc => ?_) fun hc => ?_
    · (simp only [ilt_T, ilt_F, ile_T, ile_F, ieq_T, ieq_F, bnot_T, bnot_F, ble_T, ble_F, nz_T, nz_F, nonneg_T, nonneg_F] at hc)
      rw [iadd_ok (by omega) (by omega), ix_ok (by omega) (by omega), opt_bind_some, ble_t (by simp [t_s_l06List]; omega), cond_t]
      refine ih (n - 1) _ (by omega) ⟨i + 1, _, by omega, by omega, ?_, ?_, rfl⟩
      · simp [t_s_l06List]; omega
      · have hx : tTurn.ok (p.2.1.getD ((i : Int)).toNat zTurn) := by
          rw [List.getD_eq_getElem?_getD, List.getElem?_eq_getElem (by omega)]
          exact hk.2 _ (List.getElem_mem _)
        obtain ⟨k1, k2, k3, k4, _⟩ := hx
        intro x hx
        rcases List.mem_append.1 hx with hx | hx
        · exact hf x hx
        · simp only [t_s_l06List, List.mem_cons, List.not_mem_nil, or_false] at hx
          rcases hx with rfl | rfl | rfl | rfl
          · exact k1
          · exact k2
          · exact k3
          · exact k4
    · (simp only [ilt_T, ilt_F, ile_T, ile_F, ieq_T, ieq_F, bnot_T, bnot_F, ble_T, ble_F, nz_T, nz_F, nonneg_T, nonneg_F] at hc)
      exact Ret.pure ⟨by dsimp only; omega, hf⟩
  · obtain ⟨k1, k2, k3, _⟩ := hr
    intro x hx
    simp only [List.mem_cons, List.not_mem_nil, or_false] at hx
    rcases hx with rfl | rfl | rfl
    · exact k1
    · exact k2
    · exact k3

theorem e_NumbersOfPose (p : dPose) (h : (z_Pose p : Int) ≤ 1048576) (hok : okPs [.ro true tPose] (p, ())) : Same (g_s_NumbersOfPose p) (g_i_NumbersOfPose p) fun y => szL z_F32 y.1 ≤ 1048576 := by
  have hz : ∀ l : List Nat, szL z_F32 l = l.length := szL_zero
  refine Same.of ?_ ?_
  · unfold g_i_NumbersOfPose g_s_NumbersOfPose
    rw [se_isPose, se_listed]
  · unfold g_s_NumbersOfPose
    refine Ret.cond (fun _ => Ret.pure (by simp [szL])) fun h1 => ?_
    rw [bnot_F, l03Few_T] at h1
    refine Ret.bind' (rt_l10Numbers p h1.2 hok.1.2.1 hok.1.1) fun y _ hy => Ret.pure ?_
    rw [hz, hy.1]; omega
end Go.Fw
