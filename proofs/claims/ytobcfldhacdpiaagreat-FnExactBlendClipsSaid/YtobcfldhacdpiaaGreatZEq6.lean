/- The reference's functions and the program's compute the same: clips that are blended. No condition. -/
import Derived.Test.YtobcfldhacdpiaaGreatZEq3
set_option linter.unusedVariables false
set_option linter.unusedSimpArgs false
namespace Go.Fw

theorem rt_l07Weights (p : List Nat) (x : Nat) (h1 : 1 ≤ p.length) (h2 : p.length ≤ 6) (hfin : ∀ j, j < p.length → t_s_l01Finite (p.getD j 0) = true) (hx : feq .f32 x x = true) : Ret (g_s_l07Weights p x) fun y => y.length = p.length := by
  unfold g_s_l07Weights
  rw [mkOk_t (by omega) (by omega) (by omega), cond_t, isub_ok (by omega) (by omega)]
  refine Ret.ix (by omega) (by omega) (Ret.cond (fun _ => Ret.ix (by omega) (by simp; omega) (Ret.pure (by simp))) fun h0 => Ret.ix (by omega) (by omega) (Ret.cond (fun _ => Ret.ix (by omega) (by simp; omega) (Ret.pure (by simp))) fun hl => ?_))
  refine Ret.bind ((Ret.iter (fun n d => ∃ i : Nat, i + 1 ≤ p.length - 1 ∧ n = p.length - i ∧ d = ((p, (x, ((i : Int), ()))), (List.replicate p.length 0, ()))) (fun o => ∃ i : Nat, i + 1 < p.length ∧ o = ((p, (x, ((i : Int), ()))), (List.replicate p.length 0, ()))) ?_ fuel p.length _ ⟨0, ?_, by omega, rfl⟩ (by unfold fuel; omega)).mono ?_)
  · rintro r n d ⟨i, hi, hn, rfl⟩ ih
    simp only [L_s_l07Weights_1]
    rw [iadd_ok (by omega) (by omega)]
    refine Ret.ix (by omega) (by omega) (Ret.cond (fun hc => ?_) fun _ => Ret.pure ⟨i, by omega, rfl⟩)
    refine ih (n - 1) _ (by omega) ⟨i + 1, ?_, by omega, rfl⟩
    rcases Nat.lt_or_ge (i + 1) (p.length - 1) with h5 | h5
    · omega
    · exfalso
      rw [fge_fle, show ((p.length : Int) - 1).toNat = ((i : Int) + 1).toNat by omega, hc] at hl
      cases hl
  · rcases Nat.lt_or_ge 1 p.length with h5 | h5
    · omega
    · exfalso
      rw [show ((p.length : Int) - 1).toNat = 0 by omega, fge_fle] at hl
      rw [show (0 : Int).toNat = 0 from rfl] at h0
      rcases fle_total (not_nan_of_feq hx) (not_nan_of_finite (hfin 0 (by omega))) with h6 | h6
      · rw [h6] at h0; cases h0
      · rw [h6] at hl; cases hl
  · rintro _ ⟨i, hi, rfl⟩
    dsimp only
    rw [iadd_ok (by omega) (by omega)]
    refine Ret.ix (by omega) (by omega) (Ret.ix (by omega) (by omega) (Ret.ix (by omega) (by omega) (Ret.ix (by omega) (by simp; omega) (Ret.ix (by omega) (by simp; omega) (Ret.pure (by simp))))))

/-! the poses of the clips -/
def clipAtV (a : Int) (c : dClip) : dPose := poseAt c (iquo .i64 (imul .i64 a c.1) 1000)

theorem s_poses {cs : List dClip} (hn : cs.length ≤ 6) (hc : ∀ j, j < cs.length → clipOK (cs.getD j zClip) = true) (a : Int) (b0 : dVec) (ws : List Nat) :
    iter L_s_BlendClips_2 fuel ((cs, (a, ((cs.length : Int), (0, ())))), ((b0, ()), (ws, ([], ())))) = some ((), ((b0, ()), (ws, (cs.map (clipAtV a), ())))) := by
  refine map_loop (step := L_s_BlendClips_2) (fun i acc => ((cs, (a, ((cs.length : Int), ((i : Int), ())))), ((b0, ()), (ws, (acc, ()))))) (fun acc => ((), ((b0, ()), (ws, (acc, ()))))) (clipAtV a) cs (fun pre x suf r acc he ha => ?_) (fun r acc => by simp only [L_s_BlendClips_2, ilt_self, cond_f]) (by omega)
  have hpl : pre.length < cs.length := by rw [he]; simp
  have hx : cs.getD pre.length zClip = x := by rw [he]; exact getD_mid ..
  have hcx := hc _ hpl
  rw [hx] at hcx
  simp only [L_s_BlendClips_2, List.nil_append, List.length_cons, List.length_nil]
  rw [ilt_nat hpl, ix_nat hpl, iadd_nat (by omega), ble_t (by omega)]
  simp only [opt_bind_some, cond_t, hx]
  rw [c_s_l05Pose hcx, opt_bind_some]
  rfl

theorem i_poses {cs : List dClip} (hn : cs.length ≤ 6) (hc : ∀ j, j < cs.length → clipOK (cs.getD j zClip) = true) (a : Int) (b0 : dVec) (ws : List Nat) (r0 : List dPose) (h0 : r0.length = cs.length) :
    iter L_i_BlendClips_1 fuel ((cs, (a, ((cs.length : Int), (0, ())))), ((b0, ()), (ws, (r0, ())))) = some ((cs, ()), ((b0, ()), (ws, (cs.map (clipAtV a), ())))) := by
  rw [← range_map_getD (clipAtV a) cs zClip]
  refine fill_loop (step := L_i_BlendClips_1) (fun i acc => ((cs, (a, ((cs.length : Int), ((i : Int), ())))), ((b0, ()), (ws, (acc, ()))))) (fun acc => ((cs, ()), ((b0, ()), (ws, (acc, ()))))) (fun j => clipAtV a (cs.getD j zClip)) cs.length (fun r i acc hi ha => ?_) (fun r acc ha => by simp only [L_i_BlendClips_1, ilt_self, cond_f]) (by omega) r0 h0
  simp only [L_i_BlendClips_1]
  rw [ilt_nat hi, ix_nat hi, iadd_nat (by omega), ix_nat (show i < acc.length by omega)]
  simp only [opt_bind_some, cond_t]
  rw [c_i_sample (hc i hi), opt_bind_some]
  rfl

/-! roots -/
def rootW (ps : List dPose) (ws : List Nat) : Nat → dVec
  | 0 => (0, (0, (0, ())))
  | j + 1 => t_s_l01Add (rootW ps ws j) (t_s_l01Scale (ps.getD j zPose).1 (ws.getD j 0))
theorem s_roots {ps : List dPose} {ws : List Nat} (hw : ws.length = ps.length) (hn : ps.length ≤ 6) (b0 : dVec) (r3 : List dTurn) : ∀ (m i N : Nat), i + m = ps.length → m < N →
    iter L_s_BlendClips_3 N (((ps.length : Int), ((i : Int), ())), ((b0, ()), (ws, (ps, (r3, ((rootW ps ws i, ()), ())))))) = some ((), ((b0, ()), (ws, (ps, (r3, ((rootW ps ws ps.length, ()), ()))))))
  | 0, i, N, h1, h2 => by
    obtain _ | N := N
    · omega
    rw [iter_succ, show i = ps.length by omega]
    simp only [L_s_BlendClips_3, ilt_self, cond_f]
  | m + 1, i, N, h1, h2 => by
    obtain _ | N := N
    · omega
    have hi : i < ps.length := by omega
    rw [iter_succ]
    simp only [L_s_BlendClips_3, ilt_nat hi, ix_nat hi, ix_nat (show i < ws.length by omega), iadd_nat (show i < 4611686018427387904 by omega), opt_bind_some, cond_t]
    exact s_roots hw hn b0 r3 m (i + 1) N (by omega) (by omega)
theorem i_roots {ps : List dPose} {ws : List Nat} (hw : ws.length = ps.length) (hn : ps.length ≤ 6) (b0 : dVec) (r4 : List dTurn) : ∀ (m i N : Nat), i + m = ps.length → m < N →
    iter L_i_BlendClips_4 N (((ps.length : Int), ((i : Int), ())), ((b0, ()), (ws, (ps, ((rootW ps ws i, ()), (r4, ())))))) = some ((), ((b0, ()), ((rootW ps ws ps.length, ()), (r4, ()))))
  | 0, i, N, h1, h2 => by
    obtain _ | N := N
    · omega
    rw [iter_succ, show i = ps.length by omega]
    simp only [L_i_BlendClips_4, ilt_self, cond_f]
  | m + 1, i, N, h1, h2 => by
    obtain _ | N := N
    · omega
    have hi : i < ps.length := by omega
    rw [iter_succ]
    simp only [L_i_BlendClips_4, ilt_nat hi, ix_nat hi, ix_nat (show i < ws.length by omega), iadd_nat (show i < 4611686018427387904 by omega), opt_bind_some, cond_t]
    exact i_roots hw hn b0 r4 m (i + 1) N (by omega) (by omega)

/-! turns -/
def colT (ps : List dPose) (b : Nat) : List dTurn := ps.map fun p => p.2.1.getD b zTurn
theorem colT_len (ps : List dPose) (b : Nat) : (colT ps b).length = ps.length := by simp [colT]

theorem s_col {ps : List dPose} {t : Nat} (ht : ∀ j, j < ps.length → (ps.getD j zPose).2.1.length = t) (hn : ps.length ≤ 6) {b : Nat} (hb : b < t) (u v : Int) (b0 : dVec) (ws : List Nat) (r3 : List dTurn) (b4 : dVec) :
    iter L_s_BlendClips_5 fuel (((b : Int), (u, (v, ((ps.length : Int), (0, ()))))), ((b0, ()), (ws, (ps, (r3, ((b4, ()), ([], ()))))))) = some ((u, (v, ())), ((b0, ()), (ws, (ps, (r3, ((b4, ()), (colT ps b, ()))))))) := by
  refine map_loop (step := L_s_BlendClips_5) (fun i acc => (((b : Int), (u, (v, ((ps.length : Int), ((i : Int), ()))))), ((b0, ()), (ws, (ps, (r3, ((b4, ()), (acc, ())))))))) (fun acc => ((u, (v, ())), ((b0, ()), (ws, (ps, (r3, ((b4, ()), (acc, ())))))))) (fun p => p.2.1.getD b zTurn) ps (fun pre x suf r acc he ha => ?_) (fun r acc => by simp only [L_s_BlendClips_5, ilt_self, cond_f]) (by omega)
  have hpl : pre.length < ps.length := by rw [he]; simp
  have hx : ps.getD pre.length zPose = x := by rw [he]; exact getD_mid ..
  have htx := ht _ hpl
  rw [hx] at htx
  simp only [L_s_BlendClips_5]
  rw [ilt_nat hpl, ix_nat hpl, iadd_nat (by omega), ble_t (by omega)]
  simp only [opt_bind_some, cond_t, hx]
  rw [ix_nat (show b < x.2.1.length by omega), opt_bind_some]

theorem i_col {ps : List dPose} {t : Nat} (ht : ∀ j, j < ps.length → (ps.getD j zPose).2.1.length = t) (hn : ps.length ≤ 6) {b : Nat} (hb : b < t) (u v : Int) (b0 : dVec) (ws : List Nat) (b3 : dVec) (r4 r5 : List dTurn) (h5 : r5.length = ps.length) :
    iter L_i_BlendClips_3 fuel (((b : Int), (u, (v, ((ps.length : Int), (0, ()))))), ((b0, ()), (ws, (ps, ((b3, ()), (r4, (r5, ()))))))) = some ((u, (v, ())), ((b0, ()), (ws, (ps, ((b3, ()), (r4, (colT ps b, ()))))))) := by
  unfold colT
  rw [← range_map_getD (fun p : dPose => p.2.1.getD b zTurn) ps zPose]
  refine fill_loop (step := L_i_BlendClips_3) (fun i acc => (((b : Int), (u, (v, ((ps.length : Int), ((i : Int), ()))))), ((b0, ()), (ws, (ps, ((b3, ()), (r4, (acc, ())))))))) (fun acc => ((u, (v, ())), ((b0, ()), (ws, (ps, ((b3, ()), (r4, (acc, ())))))))) (fun j => (ps.getD j zPose).2.1.getD b zTurn) ps.length (fun r i acc hi ha => ?_) (fun r acc ha => by simp only [L_i_BlendClips_3, ilt_self, cond_f]) (by omega) r5 h5
  have htx := ht _ hi
  simp only [L_i_BlendClips_3]
  rw [ilt_nat hi, ix_nat hi, iadd_nat (by omega), ix_nat (show i < acc.length by omega)]
  simp only [opt_bind_some, cond_t]
  rw [ix_nat (show b < (ps.getD i zPose).2.1.length by omega), opt_bind_some]

def turnsW (ps : List dPose) (ws : List Nat) (n : Nat) : List dTurn := (List.range n).map fun b => mixOf (colT ps b) ws
theorem turnsW_len (ps : List dPose) (ws : List Nat) (n : Nat) : (turnsW ps ws n).length = n := by simp [turnsW]
theorem turnsW_succ (ps : List dPose) (ws : List Nat) (n : Nat) : turnsW ps ws (n + 1) = turnsW ps ws n ++ [mixOf (colT ps n) ws] := range_map_succ _ _

theorem s_turns {ps : List dPose} {ws : List Nat} {t : Nat} (hw : ws.length = ps.length) (hn : ps.length ≤ 6) (ht : ∀ j, j < ps.length → (ps.getD j zPose).2.1.length = t) (h12 : t ≤ 12) (b0 b4 : dVec) : ∀ (m b N : Nat), b + m = t → m < N →
    iter L_s_BlendClips_4 N (((t : Int), ((b : Int), ())), ((b0, ()), (ws, (ps, (turnsW ps ws b, ((b4, ()), ())))))) = some ((), ((b0, ()), (turnsW ps ws t, ((b4, ()), ()))))
  | 0, b, N, h1, h2 => by
    obtain _ | N := N
    · omega
    rw [iter_succ, show b = t by omega]
    simp only [L_s_BlendClips_4, ilt_self, cond_f]
  | m + 1, b, N, h1, h2 => by
    obtain _ | N := N
    · omega
    have hb : b < t := by omega
    have ih := s_turns hw hn ht h12 b0 b4 m (b + 1) N (by omega) (by omega)
    rw [turnsW_succ] at ih
    rw [iter_succ]
    simp only [L_s_BlendClips_4]
    rw [ilt_nat hb, cond_t, s_col ht hn hb, opt_bind_some]
    dsimp only
    rw [c_mixOf (by rw [colT_len]; exact hw) (by rw [colT_len]; omega), opt_bind_some, turnsW_len, ble_t (by omega), cond_t, iadd_nat (by omega)]
    exact ih

theorem i_turns {ps : List dPose} {ws : List Nat} {t : Nat} (hw : ws.length = ps.length) (hn : ps.length ≤ 6) (ht : ∀ j, j < ps.length → (ps.getD j zPose).2.1.length = t) (h12 : t ≤ 12) (b0 b3 : dVec) : ∀ (m b N : Nat), b + m = t → m < N →
    iter L_i_BlendClips_2 N (((t : Int), ((b : Int), ())), ((b0, ()), (ws, (ps, ((b3, ()), (turnsW ps ws b, ())))))) = some ((), ((b0, ()), (ws, (ps, ((b3, ()), (turnsW ps ws t, ()))))))
  | 0, b, N, h1, h2 => by
    obtain _ | N := N
    · omega
    rw [iter_succ, show b = t by omega]
    simp only [L_i_BlendClips_2, ilt_self, cond_f]
  | m + 1, b, N, h1, h2 => by
    obtain _ | N := N
    · omega
    have hb : b < t := by omega
    have ih := i_turns hw hn ht h12 b0 b3 m (b + 1) N (by omega) (by omega)
    rw [turnsW_succ] at ih
    rw [iter_succ]
    simp only [L_i_BlendClips_2]
    rw [ilt_nat hb, cond_t, mkOk_t (by omega) (Int.le_refl _) (by omega), cond_t, i_col ht hn hb _ _ _ _ _ _ _ (by simp), opt_bind_some]
    dsimp only
    rw [se_mixTurns, c_mixOf (by rw [colT_len]; exact hw) (by rw [colT_len]; omega), opt_bind_some, turnsW_len, ble_t (by omega), cond_t, iadd_nat (by omega)]
    exact ih

theorem e_BlendClips (cs : List dClip) (p : List Nat) (x : Nat) (a : Int) (h : (szL z_Clip cs : Int) ≤ 1048576) (h' : (szL z_F32 p : Int) ≤ 1048576) (hok : okPs [.ro false (.slice tClip), .ro false (.slice (.flt .f32)), .ro false (.flt .f32), .ro false (.int .i64)] (cs, p, x, a, ())) :
    Same (g_s_BlendClips cs p x a) (g_i_BlendClips cs p x a) fun y => z_Pose y.1 ≤ 1048576 := by
  have hz : z_Pose ((0, (0, (0, ()))), (([] : List dTurn), ())) ≤ 1048576 := by rw [z_Pose_len]; simp
  have hpl := szL_len (s := z_F32) p
  have hcl := szL_len (s := z_Clip) cs
  obtain ⟨b, hb, hb2⟩ := rt_l07Scale p (by omega)
  unfold g_s_BlendClips g_i_BlendClips
  rw [se_WeightsAt, g_s_WeightsAt, hb]
  simp only [opt_bind_some]
  cases b
  · exact Same.pure hz
  obtain ⟨h1, h2⟩ := hb2 rfl
  simp only [bnot_t, cond_f]
  cases hx : feq .f32 x x
  · exact Same.pure hz
  obtain ⟨ws, hws, hwl⟩ := rt_l07Weights p x h1.1 h1.2 h2 hx
  rw [hws]
  simp only [bnot_t, cond_f, opt_bind_some]
  rw [c_i_areClips (by omega), opt_bind_some]
  cases hlen : ieq (cs.length : Int) (p.length : Int)
  · cases clipsOK cs <;> exact Same.pure hz
  (simp only [ilt_T, ilt_F, ile_T, ile_F, ieq_T, ieq_F, bnot_T, bnot_F, ble_T, ble_F, nz_T, nz_F, nonneg_T, nonneg_F] at hlen)
  have hcn : cs.length = p.length := by omega
  have hco : clipsOK cs = allFrom (clipAt cs) 0 cs.length := by
    unfold clipsOK
    rw [(l00In_T _ _ _).mpr (by omega), cond_t]
  rw [hco]
  simp only [bnot_t, cond_f]
  by_cases ha : 0 ≤ a ∧ a ≤ 1000
  rotate_left
  · rw [(l00In_F _ _ _).mpr ha, bnot_f, cond_t]
    cases allFrom (clipAt cs) 0 cs.length
    · exact Same.pure hz
    · by_cases h3 : a < 0
      · rw [ilt_t h3]; exact Same.pure hz
      · rw [ilt_f (by omega), ilt_t (show 1000 < a by omega)]; exact Same.pure hz
  rw [(l00In_T _ _ _).mpr ha, ilt_f ha.1, ilt_f ha.2, bnot_t, cond_f]
  have hall := all_loop (step := L_s_BlendClips_1) (fun i => ((cs, (p, (x, (a, (false, ((cs.length : Int), ((i : Int), ()))))))), (((0, (0, (0, ()))), ()), ()))) (false, ((cs, (p, (x, (a, (false, ()))))), (((0, (0, (0, ()))), ()), ()))) (true, ((cs, (p, (x, (a, (false, ()))))), (((0, (0, (0, ()))), ()), ()))) (clipAt cs) cs.length
    (fun j h3 r => by
      simp only [L_s_BlendClips_1]
      rw [ilt_nat h3, ix_nat h3, ix_ok (Int.le_refl 0) (show (0 : Int) < (cs.length : Int) by omega), iadd_nat (by omega)]
      simp only [opt_bind_some, cond_t, show (0 : Int).toNat = 0 from rfl]
      rw [c_s_l05Is (clip_sz (by omega) h3), opt_bind_some]
      unfold clipAt
      cases clipOK (cs.getD j zClip)
      · rfl
      · simp only [bnot_t, cond_f, cond_t, bif_not])
    (fun r => by simp only [L_s_BlendClips_1, ilt_self, cond_f]) (by omega)
  rw [show ((0 : Nat) : Int) = 0 from rfl] at hall
  rw [hall, opt_bind_some]
  cases hA : allFrom (clipAt cs) 0 cs.length
  · exact Same.pure hz
  simp only [cond_t, cond_f, bnot_t]
  have hclip : ∀ j, j < cs.length → clipOK (cs.getD j zClip) = true ∧ (cs.getD j zClip).2.2.1.length = (cs.getD 0 zClip).2.2.1.length := fun j hj => clipAt_T (allFrom_T hA j (Nat.zero_le _) (by omega))
  rw [hws, opt_bind_some, List.append_nil, s_poses (by omega) fun j hj => (hclip j hj).1]
  rw [mkOk_t (by omega) (Int.le_refl _) (by omega), cond_t, i_poses (by omega) (fun j hj => (hclip j hj).1) _ _ _ _ (by simp)]
  simp only [opt_bind_some]
  have h12 := (clipHead_T (clipOK_T (hclip 0 (by omega)).1).1).2.2
  have hpsl : (cs.map (clipAtV a)).length = cs.length := by simp
  have ht : ∀ j, j < (cs.map (clipAtV a)).length → ((cs.map (clipAtV a)).getD j zPose).2.1.length = (cs.getD 0 zClip).2.2.1.length := fun j hj => by
    rw [hpsl] at hj
    rw [map_getD (clipAtV a) cs j zClip zPose hj]
    show (poseAt _ _).2.1.length = _
    rw [poseAt_len]
    exact (hclip j hj).2
  have hw : ws.length = (cs.map (clipAtV a)).length := by rw [hpsl]; omega
  generalize hps : cs.map (clipAtV a) = ps at *
  have hr := s_roots hw (by omega) (0, (0, (0, ()))) [] ps.length 0 fuel (by omega) (by unfold fuel; omega)
  rw [show ((0 : Nat) : Int) = 0 from rfl] at hr
  simp only [rootW] at hr
  rw [hr, opt_bind_some, ix_ok (Int.le_refl 0) (show (0:Int) < (ps.length:Int) by omega), ix_ok (Int.le_refl 0) (show (0:Int) < (cs.length:Int) by omega)]
  simp only [opt_bind_some, show (0 : Int).toNat = 0 from rfl]
  have ht0 := ht 0 (by omega)
  rw [ht0]
  have hst := s_turns hw (by omega) ht (by omega) (0, (0, (0, ()))) (rootW ps ws ps.length) (cs.getD 0 zClip).2.2.1.length 0 fuel (by omega) (by unfold fuel; omega)
  have hit := i_turns hw (by omega) ht (by omega) (0, (0, (0, ()))) (0, (0, (0, ()))) (cs.getD 0 zClip).2.2.1.length 0 fuel (by omega) (by unfold fuel; omega)
  rw [show ((0 : Nat) : Int) = 0 from rfl, show turnsW ps ws 0 = [] from rfl] at hst hit
  have hir := i_roots hw (by omega) (0, (0, (0, ()))) (turnsW ps ws (cs.getD 0 zClip).2.2.1.length) ps.length 0 fuel (by omega) (by unfold fuel; omega)
  rw [show ((0 : Nat) : Int) = 0 from rfl] at hir
  simp only [rootW] at hir
  rw [hst, hit]
  simp only [opt_bind_some]
  rw [hir]
  refine Same.pure ?_
  show z_Pose (rootW ps ws ps.length, (turnsW ps ws (cs.getD 0 zClip).2.2.1.length, ())) ≤ _
  rw [z_Pose_len]
  show (turnsW ps ws (cs.getD 0 zClip).2.2.1.length).length ≤ _
  rw [turnsW_len]; omega
end Go.Fw
