/- The reference's functions and the program's compute the same: skins that are assigned, and linear skins. No condition. -/
import Derived.Test.YtijmellgdjcofaaBEq5
set_option linter.unusedVariables false
set_option linter.unusedSimpArgs false
namespace Go.Fw

/-! the nearest bone -/
/-! skins -/
theorem isSkin_T {k : dSkel} {ps : List dSkinPoint} (h : isSkin k ps = true) : ps.length ≤ 24 ∧ ∀ j, j < ps.length → t_s_l09Point (ps.getD j zSkinPoint) = true ∧ ∀ i, i < (ps.getD j zSkinPoint).2.1.length → 0 ≤ (ps.getD j zSkinPoint).2.1.getD i 0 ∧ (ps.getD j zSkinPoint).2.1.getD i 0 < k.1.length := by
  unfold isSkin at h
  cases h1 : ile (ps.length : Int) 24
  · rw [h1] at h; cases h
  rw [h1, cond_t] at h
  (simp only [ilt_T, ilt_F, ile_T, ile_F, ieq_T, ieq_F, bnot_T, bnot_F, ble_T, ble_F, nz_T, nz_F, nonneg_T, nonneg_F] at h1)
  refine ⟨by omega, fun j hj => ?_⟩
  have h2 := allFrom_T h j (Nat.zero_le _) (by omega)
  unfold skinPt at h2
  cases h3 : t_s_l09Point (ps.getD j zSkinPoint)
  · rw [h3] at h2; cases h2
  rw [h3, cond_t] at h2
  refine ⟨rfl, fun i hi => ?_⟩
  unfold rises at h2
  have h4 := allFrom_T h2 i (Nat.zero_le _) (by omega)
  unfold risesAt at h4
  cases h5 : t_s_l00In ((ps.getD j zSkinPoint).2.1.getD i 0) 0 ((k.1.length : Int) - 1)
  · rw [h5] at h4; cases h4
  rw [l00In_T] at h5
  omega

structure PtOK (n : Nat) (p : dSkinPoint) : Prop where
  few : 1 ≤ p.2.1.length ∧ p.2.1.length ≤ 4
  same : p.2.2.1.length = p.2.1.length
  bones : ∀ i, i < p.2.1.length → 0 ≤ p.2.1.getD i 0 ∧ p.2.1.getD i 0 < (n : Int)
theorem PtOK.of {k : dSkel} {ps : List dSkinPoint} (h : isSkin k ps = true) {j : Nat} (hj : j < ps.length) : PtOK k.1.length (ps.getD j zSkinPoint) := by
  obtain ⟨h1, h2⟩ := (isSkin_T h).2 j hj
  have := point_T h1
  exact ⟨this.1, this.2, h2⟩
theorem PtOK.ix {n m : Nat} {p : dSkinPoint} (h : PtOK n p) (hm : m = n) {i : Nat} (hi : i < p.2.1.length) : Go.Fw.ix (p.2.1.getD i 0) m = some (p.2.1.getD i 0).toNat := by
  subst hm
  have := h.bones i hi
  exact ix_ok this.1 this.2

def canSkin (k : dSkel) (r p : dPose) (ps : List dSkinPoint) : Bool := bif poseOK k r then bif poseOK k p then isSkin k ps else false else false
theorem c_i_canSkin {k : dSkel} {r p : dPose} {ps : List dSkinPoint} (hk : k.1.length < 4611686018427387904) (h : szL z_SkinPoint ps < 4611686018427387904) : g_i_canSkin k r p ps = some (canSkin k r p ps) := by
  unfold g_i_canSkin canSkin
  rw [c_i_IsPose k r hk, c_i_IsPose k p hk, c_i_IsSkin k ps h hk]
  simp only [opt_bind_some]
  cases h1 : poseOK k r
  · rfl
  cases h2 : poseOK k p
  · rfl
  rw [(poseOK_T h1).1]
  rfl

/-! linear skins -/
def linV (tu : List dTurn) (mo : List dVec) (p : dSkinPoint) : Nat → dVec
  | 0 => (0, (0, (0, ())))
  | j + 1 => t_s_l01Add (linV tu mo p j) (t_s_l01Scale (t_s_l01Add (t_s_l02Rotate (tu.getD (p.2.1.getD j 0).toNat zTurn) p.1) (mo.getD (p.2.1.getD j 0).toNat zVec)) (p.2.2.1.getD j 0))

theorem s_lin {tu : List dTurn} {mo : List dVec} {n : Nat} (ht : tu.length = n) (hm : mo.length = n) {p : dSkinPoint} (hp : PtOK n p) (ps : List dSkinPoint) (a b : Int) (r5 : List dVec) :
    ∀ (m j N : Nat), j + m = p.2.1.length → m < N → iter L_s_SkinLinear_2 N ((ps, (a, (b, ((p.2.1.length : Int), ((j : Int), ()))))), (tu, (mo, (r5, ((p, ()), ((linV tu mo p j, ()), ())))))) = some ((ps, (a, (b, ()))), (tu, (mo, (r5, ((linV tu mo p p.2.1.length, ()), ())))))
  | 0, j, N, h1, h2 => by
    obtain _ | N := N
    · omega
    rw [iter_succ, show j = p.2.1.length by omega]
    simp only [L_s_SkinLinear_2, ilt_self, cond_f]
  | m + 1, j, N, h1, h2 => by
    obtain _ | N := N
    · omega
    have hj : j < p.2.1.length := by omega
    have hl := hp.few
    have hs := hp.same
    rw [iter_succ]
    simp only [L_s_SkinLinear_2, ilt_nat hj, ix_nat hj, hp.ix ht hj, hp.ix hm hj, ix_nat (show j < p.2.2.1.length by omega), iadd_nat (show j < 4611686018427387904 by omega), opt_bind_some, cond_t]
    exact s_lin ht hm hp ps a b r5 m (j + 1) N (by omega) (by omega)

theorem i_lin {tu : List dTurn} {mo : List dVec} {n : Nat} (ht : tu.length = n) (hm : mo.length = n) {p : dSkinPoint} (hp : PtOK n p) (ps : List dSkinPoint) (a b : Int) (r5 : List dVec) :
    ∀ (m j N : Nat), j + m = p.2.1.length → m < N → iter L_i_SkinLinear_2 N ((ps, (a, (b, (p.2.1, ((p.2.1.length : Int), ((j : Int), ())))))), (tu, (mo, (r5, ((p, ()), ((linV tu mo p j, ()), ())))))) = some ((ps, (a, (b, ()))), (tu, (mo, (r5, ((linV tu mo p p.2.1.length, ()), ())))))
  | 0, j, N, h1, h2 => by
    obtain _ | N := N
    · omega
    rw [iter_succ, show j = p.2.1.length by omega]
    simp only [L_i_SkinLinear_2, ilt_self, cond_f]
  | m + 1, j, N, h1, h2 => by
    obtain _ | N := N
    · omega
    have hj : j < p.2.1.length := by omega
    have hl := hp.few
    have hs := hp.same
    rw [iter_succ]
    simp only [L_i_SkinLinear_2, ilt_nat hj, ix_nat hj, hp.ix ht hj, hp.ix hm hj, ix_nat (show j < p.2.2.1.length by omega), iadd_nat (show j < 4611686018427387904 by omega), opt_bind_some, cond_t]
    exact i_lin ht hm hp ps a b r5 m (j + 1) N (by omega) (by omega)

def linPt (tu : List dTurn) (mo : List dVec) (p : dSkinPoint) : dVec := linV tu mo p p.2.1.length

theorem s_linear {tu : List dTurn} {mo : List dVec} {k : dSkel} (ht : tu.length = k.1.length) (hm : mo.length = k.1.length) {ps : List dSkinPoint} (hs : isSkin k ps = true) :
    iter L_s_SkinLinear_1 fuel ((ps, ((ps.length : Int), (0, ()))), (tu, (mo, ([], ())))) = some ((), (ps.map (linPt tu mo), ())) := by
  have h := (isSkin_T hs).1
  refine map_loop (step := L_s_SkinLinear_1) (fun i acc => ((ps, ((ps.length : Int), ((i : Int), ()))), (tu, (mo, (acc, ()))))) (fun acc => ((), (acc, ()))) (linPt tu mo) ps (fun pre x suf r acc he ha => ?_) (fun r acc => by simp only [L_s_SkinLinear_1, ilt_self, cond_f]) (by omega)
  have hpl : pre.length < ps.length := by rw [he]; simp
  have hx : ps.getD pre.length zSkinPoint = x := by rw [he]; exact getD_mid ..
  have hp := PtOK.of hs hpl
  rw [hx] at hp
  have hf := hp.few
  have := s_lin ht hm hp ps (ps.length : Int) (pre.length : Int) acc x.2.1.length 0 fuel (by omega) (by unfold fuel; omega)
  rw [show ((0 : Nat) : Int) = 0 from rfl] at this
  simp only [linV] at this
  simp only [L_s_SkinLinear_1, ilt_nat hpl, ix_nat hpl, hx, opt_bind_some, cond_t, this, iadd_nat (show pre.length < 4611686018427387904 by omega), ble_t (show acc.length + 1 ≤ 4294967296 by omega)]
  rfl

theorem i_linear {tu : List dTurn} {mo : List dVec} {k : dSkel} (ht : tu.length = k.1.length) (hm : mo.length = k.1.length) {ps : List dSkinPoint} (hs : isSkin k ps = true) :
    iter L_i_SkinLinear_1 fuel ((ps, ((ps.length : Int), (0, ()))), (tu, (mo, ([], ())))) = some ((), (ps.map (linPt tu mo), ())) := by
  have h := (isSkin_T hs).1
  refine map_loop (step := L_i_SkinLinear_1) (fun i acc => ((ps, ((ps.length : Int), ((i : Int), ()))), (tu, (mo, (acc, ()))))) (fun acc => ((), (acc, ()))) (linPt tu mo) ps (fun pre x suf r acc he ha => ?_) (fun r acc => by simp only [L_i_SkinLinear_1, ilt_self, cond_f]) (by omega)
  have hpl : pre.length < ps.length := by rw [he]; simp
  have hx : ps.getD pre.length zSkinPoint = x := by rw [he]; exact getD_mid ..
  have hp := PtOK.of hs hpl
  rw [hx] at hp
  have hf := hp.few
  have := i_lin ht hm hp ps (ps.length : Int) (pre.length : Int) acc x.2.1.length 0 fuel (by omega) (by unfold fuel; omega)
  rw [show ((0 : Nat) : Int) = 0 from rfl] at this
  simp only [linV] at this
  simp only [L_i_SkinLinear_1, ilt_nat hpl, ix_nat hpl, hx, opt_bind_some, cond_t, this, iadd_nat (show pre.length < 4611686018427387904 by omega), ble_t (show acc.length + 1 ≤ 4294967296 by omega)]
  rfl

theorem szV (l : List dVec) : szL z_Vec l = l.length := szL_zero l

theorem e_SkinLinear (k : dSkel) (r p : dPose) (ps : List dSkinPoint) (h : (z_Skel k : Int) ≤ 1048576) (h' : (z_Pose r : Int) ≤ 1048576) (h'' : (z_Pose p : Int) ≤ 1048576) (h3 : (szL z_SkinPoint ps : Int) ≤ 1048576) (hok : okPs [.ro true tSkel, .ro true tPose, .ro true tPose, .ro false (.slice tSkinPoint)] (k, r, p, ps, ())) :
    Same (g_s_SkinLinear k r p ps) (g_i_SkinLinear k r p ps) fun y => szL z_Vec y.1 ≤ 1048576 := by
  have hl := skel_len h
  unfold g_s_SkinLinear g_i_SkinLinear
  rw [c_s_l03Pose k r hl, c_s_l03Pose k p hl, c_s_l09Skin k ps (by omega) hl, c_i_canSkin hl (by omega)]
  simp only [opt_bind_some]
  unfold canSkin
  cases h1 : poseOK k r
  · exact Same.pure (by simp [szL])
  cases h2 : poseOK k p
  · exact Same.pure (by simp [szL])
  cases h4 : isSkin k ps
  · exact Same.pure (by simp [szL])
  obtain ⟨hk, hr⟩ := poseOK_T h1
  obtain ⟨_, hp⟩ := poseOK_T h2
  simp only [bnot_t, cond_f, cond_t]
  rw [c_s_l09Moves hk hr hp, c_i_moves hk hr hp]
  simp only [opt_bind_some]
  rw [s_linear (movesT_len k r p) (movesV_len k r p) h4, i_linear (movesT_len k r p) (movesV_len k r p) h4]
  refine Same.pure ?_
  have := (isSkin_T h4).1
  show szL z_Vec (ps.map _) ≤ _
  rw [szV, List.length_map]; omega
end Go.Fw
