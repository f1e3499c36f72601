/- The reference's functions and the program's compute the same: mixed skins. No condition. -/
import Derived.Test.YtijmellgdjcofaaBEq6
set_option linter.unusedVariables false
set_option linter.unusedSimpArgs false
namespace Go.Fw

/-! mixed turns -/
theorem se_InnerOfTurns (a b : dTurn) : t_i_InnerOfTurns a b = t_s_l02Inner a b := rfl
theorem se_LengthOfTurn (t : dTurn) : g_i_LengthOfTurn t = g_s_l01Sqrt (t_s_l02Inner t t) := by
  unfold g_i_LengthOfTurn
  rw [se_RootNumber, se_InnerOfTurns, opt_bind_pure]
theorem se_MendTurn (t : dTurn) : g_i_MendTurn t = g_s_l02Mend t := by
  unfold g_i_MendTurn g_s_l02Mend
  rw [se_LengthOfTurn]
  congr 1
  funext y
  unfold t_i_isLength
  rw [se_IsFinite]
  cases t_s_l01Finite y <;> cases feq .f32 y 0 <;> rfl
theorem rt_l02Mend (t : dTurn) : Ret (g_s_l02Mend t) fun _ => True := by
  unfold g_s_l02Mend
  refine Ret.bind' (rt_l01Sqrt (fadd_okF _ _ _)) fun y _ _ => ?_
  cases feq .f32 y 0
  · cases t_s_l01Finite y <;> exact Ret.pure trivial
  · exact Ret.pure trivial

theorem se_mix_loop (l : List dTurn) (ws : List Nat) (b0 : dTurn) : ∀ (n : Nat) (i : Int) (s : dTurn),
    iter L_i_mixTurns_1 n ((l, (ws, (l, ((l.length : Int), (i, ()))))), ((b0, ()), ((s, ()), ()))) = iter L_s_l02Mix_1 n ((l, (ws, (i, ()))), ((b0, ()), ((s, ()), ())))
  | 0, _, _ => rfl
  | n + 1, i, s => by
    have ih := se_mix_loop l ws b0 n
    rw [iter_succ, iter_succ]
    simp only [L_i_mixTurns_1, L_s_l02Mix_1, ih]
    cases ilt i (l.length : Int)
    · rfl
    simp only [cond_t]
    cases ix i l.length with
    | none => rfl
    | some j =>
      simp only [opt_bind_some]
      cases ix 0 l.length with
      | none => rfl
      | some j0 =>
        simp only [opt_bind_some]
        rw [se_InnerOfTurns]
        unfold t_s_l02Opposite
        cases flt .f32 (t_s_l02Inner (l.getD j0 zTurn) (l.getD j zTurn)) 0
        · cases ix i ws.length <;> rfl
        · cases ix i ws.length <;> rfl

theorem se_mixTurns (l : List dTurn) (ws : List Nat) : g_i_mixTurns l ws = g_s_l02Mix l ws := by
  unfold g_i_mixTurns g_s_l02Mix
  simp only [se_mix_loop, se_MendTurn]

theorem rt_mix (l : List dTurn) (ws : List Nat) (h : ws.length = l.length) (hl : l.length < 4611686018427387904) : Ret (g_s_l02Mix l ws) fun _ => True := by
  unfold g_s_l02Mix
  refine Ret.bind' (Ret.iter (fun n d => ∃ (i : Nat) (s : dTurn), i ≤ l.length ∧ n = l.length - i ∧ d = ((l, (ws, ((i : Int), ()))), (((0, (0, (0, (0, ())))), ()), ((s, ()), ())))) (fun _ => True) ?_ fuel l.length _ ⟨0, _, by omega, by omega, rfl⟩ (by unfold fuel; omega)) fun y _ _ => ?_
  · rintro r n d ⟨i, s, h1, h2, rfl⟩ ih
    simp only [L_s_l02Mix_1]
    refine Ret.cond (fun hc => ?_) fun hc => Ret.pure trivial
    (simp only [ilt_T, ilt_F, ile_T, ile_F, ieq_T, ieq_F, bnot_T, bnot_F, ble_T, ble_F, nz_T, nz_F, nonneg_T, nonneg_F] at hc)
    have hi : i < l.length := by omega
    simp only [ix_nat hi, ix_ok (Int.le_refl 0) (show (0 : Int) < (l.length : Int) by omega), ix_nat (show i < ws.length by omega), opt_bind_some, iadd_nat (show i < 4611686018427387904 by omega)]
    exact ih (n - 1) _ (by omega) ⟨i + 1, _, by omega, by omega, rfl⟩
  · exact Ret.bind' (rt_l02Mend _) fun _ _ _ => Ret.pure trivial

def mixOf (l : List dTurn) (ws : List Nat) : dTurn := (g_s_l02Mix l ws).getD zTurn
theorem c_mixOf {l : List dTurn} {ws : List Nat} (h : ws.length = l.length) (hl : l.length < 4611686018427387904) : g_s_l02Mix l ws = some (mixOf l ws) := by
  obtain ⟨y, hy, _⟩ := rt_mix l ws h hl
  unfold mixOf
  rw [hy]; rfl

/-! mixed skins -/
def mixV (mo : List dVec) (p : dSkinPoint) : Nat → dVec
  | 0 => (0, (0, (0, ())))
  | j + 1 => t_s_l01Add (mixV mo p j) (t_s_l01Scale (mo.getD (p.2.1.getD j 0).toNat zVec) (p.2.2.1.getD j 0))
def mixL (tu : List dTurn) (p : dSkinPoint) (n : Nat) : List dTurn := (List.range n).map fun j => tu.getD (p.2.1.getD j 0).toNat zTurn

theorem s_mix {tu : List dTurn} {mo : List dVec} {n : Nat} (ht : tu.length = n) (hm : mo.length = n) {p : dSkinPoint} (hp : PtOK n p) (ps : List dSkinPoint) (a b : Int) (r5 : List dVec) :
    ∀ (m j N : Nat), j + m = p.2.1.length → m < N → iter L_s_SkinMixed_2 N ((ps, (a, (b, ((p.2.1.length : Int), ((j : Int), ()))))), (tu, (mo, (r5, ((p, ()), ((mixV mo p j, ()), (mixL tu p j, ()))))))) =
      some ((ps, (a, (b, ()))), (tu, (mo, (r5, ((p, ()), ((mixV mo p p.2.1.length, ()), (mixL tu p p.2.1.length, ())))))))
  | 0, j, N, h1, h2 => by
    obtain _ | N := N
    · omega
    rw [iter_succ, show j = p.2.1.length by omega]
    simp only [L_s_SkinMixed_2, ilt_self, cond_f]
  | m + 1, j, N, h1, h2 => by
    obtain _ | N := N
    · omega
    have hj : j < p.2.1.length := by omega
    have hl := hp.few
    have hs := hp.same
    have ih := s_mix ht hm hp ps a b r5 m (j + 1) N (by omega) (by omega)
    have hL : (mixL tu p j).length = j := by simp [mixL]
    rw [iter_succ]
    simp only [L_s_SkinMixed_2, hL, ilt_nat hj, ix_nat hj, hp.ix ht hj, hp.ix hm hj, ix_nat (show j < p.2.2.1.length by omega), iadd_nat (show j < 4611686018427387904 by omega), ble_t (show j + 1 ≤ 4294967296 by omega), opt_bind_some, cond_t]
    have e : mixL tu p (j + 1) = mixL tu p j ++ [tu.getD (p.2.1.getD j 0).toNat zTurn] := range_map_succ _ _
    rw [e] at ih
    exact ih

theorem i_mix {tu : List dTurn} {mo : List dVec} {n : Nat} (ht : tu.length = n) (hm : mo.length = n) {p : dSkinPoint} (hp : PtOK n p) (ps : List dSkinPoint) (a b : Int) (r5 : List dVec) :
    ∀ (m j N : Nat) (r8 : List dTurn), j + m = p.2.1.length → m < N → r8.length = p.2.1.length → r8.take j = mixL tu p j → iter L_i_SkinMixed_2 N ((ps, (a, (b, (p.2.1, ((p.2.1.length : Int), ((j : Int), ())))))), (tu, (mo, (r5, ((p, ()), ((mixV mo p j, ()), (r8, ()))))))) =
      some ((ps, (a, (b, ()))), (tu, (mo, (r5, ((p, ()), ((mixV mo p p.2.1.length, ()), (mixL tu p p.2.1.length, ())))))))
  | 0, j, N, r8, h1, h2, h3, h4 => by
    obtain _ | N := N
    · omega
    have e : j = p.2.1.length := by omega
    rw [iter_succ, e]
    simp only [L_i_SkinMixed_2, ilt_self, cond_f]
    rw [e, List.take_of_length_le (by omega)] at h4
    rw [h4]
  | m + 1, j, N, r8, h1, h2, h3, h4 => by
    obtain _ | N := N
    · omega
    have hj : j < p.2.1.length := by omega
    have hl := hp.few
    have hs := hp.same
    rw [iter_succ]
    simp only [L_i_SkinMixed_2, h3, ilt_nat hj, ix_nat hj, hp.ix ht hj, hp.ix hm hj, ix_nat (show j < p.2.2.1.length by omega), iadd_nat (show j < 4611686018427387904 by omega), opt_bind_some, cond_t]
    refine i_mix ht hm hp ps a b r5 m (j + 1) N _ (by omega) (by omega) (by rw [List.length_set]; exact h3) ?_
    rw [take_set h4 (by omega)]
    exact (range_map_succ _ _).symm

def mixPt (tu : List dTurn) (mo : List dVec) (p : dSkinPoint) : dVec := t_s_l01Add (t_s_l02Rotate (mixOf (mixL tu p p.2.1.length) p.2.2.1) p.1) (mixV mo p p.2.1.length)

theorem s_mixed {tu : List dTurn} {mo : List dVec} {k : dSkel} (ht : tu.length = k.1.length) (hm : mo.length = k.1.length) {ps : List dSkinPoint} (hs : isSkin k ps = true) :
    iter L_s_SkinMixed_1 fuel ((ps, ((ps.length : Int), (0, ()))), (tu, (mo, ([], ())))) = some ((), (ps.map (mixPt tu mo), ())) := by
  have h := (isSkin_T hs).1
  refine map_loop (step := L_s_SkinMixed_1) (fun i acc => ((ps, ((ps.length : Int), ((i : Int), ()))), (tu, (mo, (acc, ()))))) (fun acc => ((), (acc, ()))) (mixPt tu mo) ps (fun pre x suf r acc he ha => ?_) (fun r acc => by simp only [L_s_SkinMixed_1, ilt_self, cond_f]) (by omega)
  have hpl : pre.length < ps.length := by rw [he]; simp
  have hx : ps.getD pre.length zSkinPoint = x := by rw [he]; exact getD_mid ..
  have hp := PtOK.of hs hpl
  rw [hx] at hp
  have hf := hp.few
  have hw := hp.same
  have := s_mix ht hm hp ps (ps.length : Int) (pre.length : Int) acc x.2.1.length 0 fuel (by omega) (by unfold fuel; omega)
  rw [show ((0 : Nat) : Int) = 0 from rfl, show mixL tu x 0 = [] from rfl] at this
  simp only [mixV] at this
  have hL : (mixL tu x x.2.1.length).length = x.2.1.length := by simp [mixL]
  simp only [L_s_SkinMixed_1, ilt_nat hpl, ix_nat hpl, hx, opt_bind_some, cond_t, this, c_mixOf (show x.2.2.1.length = (mixL tu x x.2.1.length).length by omega) (by omega), iadd_nat (show pre.length < 4611686018427387904 by omega), ble_t (show acc.length + 1 ≤ 4294967296 by omega)]
  rfl

theorem i_mixed {tu : List dTurn} {mo : List dVec} {k : dSkel} (ht : tu.length = k.1.length) (hm : mo.length = k.1.length) {ps : List dSkinPoint} (hs : isSkin k ps = true) :
    iter L_i_SkinMixed_1 fuel ((ps, ((ps.length : Int), (0, ()))), (tu, (mo, ([], ())))) = some ((), (ps.map (mixPt tu mo), ())) := by
  have h := (isSkin_T hs).1
  refine map_loop (step := L_i_SkinMixed_1) (fun i acc => ((ps, ((ps.length : Int), ((i : Int), ()))), (tu, (mo, (acc, ()))))) (fun acc => ((), (acc, ()))) (mixPt tu mo) ps (fun pre x suf r acc he ha => ?_) (fun r acc => by simp only [L_i_SkinMixed_1, ilt_self, cond_f]) (by omega)
  have hpl : pre.length < ps.length := by rw [he]; simp
  have hx : ps.getD pre.length zSkinPoint = x := by rw [he]; exact getD_mid ..
  have hp := PtOK.of hs hpl
  rw [hx] at hp
  have hf := hp.few
  have hw := hp.same
  have := i_mix ht hm hp ps (ps.length : Int) (pre.length : Int) acc x.2.1.length 0 fuel (List.replicate x.2.1.length (0, (0, (0, (0, ()))))) (by omega) (by unfold fuel; omega) (by simp) rfl
  rw [show ((0 : Nat) : Int) = 0 from rfl] at this
  simp only [mixV] at this
  have hL : (mixL tu x x.2.1.length).length = x.2.1.length := by simp [mixL]
  simp only [L_i_SkinMixed_1, ilt_nat hpl, ix_nat hpl, hx, opt_bind_some, cond_t, mkOk_t (show (0 : Int) ≤ (x.2.1.length : Int) by omega) (Int.le_refl _) (show (x.2.1.length : Int) ≤ 4294967296 by omega), this, se_mixTurns, c_mixOf (show x.2.2.1.length = (mixL tu x x.2.1.length).length by omega) (by omega), iadd_nat (show pre.length < 4611686018427387904 by omega), ble_t (show acc.length + 1 ≤ 4294967296 by omega)]
  rfl

theorem e_SkinMixed (k : dSkel) (r p : dPose) (ps : List dSkinPoint) (h : (z_Skel k : Int) ≤ 1048576) (h' : (z_Pose r : Int) ≤ 1048576) (h'' : (z_Pose p : Int) ≤ 1048576) (h3 : (szL z_SkinPoint ps : Int) ≤ 1048576) (hok : okPs [.ro true tSkel, .ro true tPose, .ro true tPose, .ro false (.slice tSkinPoint)] (k, r, p, ps, ())) :
    Same (g_s_SkinMixed k r p ps) (g_i_SkinMixed k r p ps) fun y => szL z_Vec y.1 ≤ 1048576 := by
  have hl := skel_len h
  unfold g_s_SkinMixed g_i_SkinMixed
  rw [c_s_l03Pose k r hl, c_s_l03Pose k p hl, c_s_l09Skin k ps (by omega) hl, c_i_canSkin hl (by omega)]
  simp only [opt_bind_some]
  unfold canSkin
  cases h1 : poseOK k r
  · exact Same.pure (by simp [szL])
  cases h2 : poseOK k p
  · exact Same.pure (by simp [szL])
  cases h4 : isSkin k ps
  · exact Same.pure (by simp [szL])
  obtain ⟨hk, hr⟩ := poseOK_T h1
  obtain ⟨_, hp⟩ := poseOK_T h2
  simp only [bnot_t, cond_f, cond_t]
  rw [c_s_l09Moves hk hr hp, c_i_moves hk hr hp]
  simp only [opt_bind_some]
  rw [s_mixed (movesT_len k r p) (movesV_len k r p) h4, i_mixed (movesT_len k r p) (movesV_len k r p) h4]
  refine Same.pure ?_
  have := (isSkin_T h4).1
  show szL z_Vec (ps.map _) ≤ _
  rw [szV, List.length_map]; omega
end Go.Fw
