/- The reference's functions and the program's compute the same: skins that are assigned, and linear skins. No condition. -/
import Derived.Test.YtijmellgdjcofaaBEq5
set_option linter.unusedVariables false
set_option linter.unusedSimpArgs false
namespace Go.Fw

def longV (v : dVec) : Nat := (g_s_l01Long v).getD 0
theorem c_longV (v : dVec) : g_s_l01Long v = some (longV v) := by
  obtain ⟨y, hy, _⟩ := rt_l01Long v
  unfold longV
  rw [hy]; rfl

/-! the nearest bone -/
def nearTo (v : dVec) (at' : List dVec) : Nat → Nat → Int → Nat → Int
  | 0, j, best, least => best
  | m + 1, j, best, least =>
    bif flt .f32 (longV (t_s_l01Less v (at'.getD j zVec))) least then nearTo v at' m (j + 1) j (longV (t_s_l01Less v (at'.getD j zVec)))
    else bif feq .f32 (longV (t_s_l01Less v (at'.getD j zVec))) (longV (t_s_l01Less v (at'.getD j zVec))) then
      bif !(feq .f32 least least) then nearTo v at' m (j + 1) j (longV (t_s_l01Less v (at'.getD j zVec))) else nearTo v at' m (j + 1) best least
    else nearTo v at' m (j + 1) best least

theorem s_near (ps at' : List dVec) (i a b : Int) (r4 : List dSkinPoint) (v : dVec) (hi : ix i ps.length = some i.toNat) (hv : ps.getD i.toNat zVec = v) (hn : at'.length ≤ 1048576) :
    ∀ (m j N : Nat) (best : Int) (least : Nat), j + m = at'.length → m < N → iter L_s_AssignSkin_2 N ((ps, (i, (best, (least, (a, (b, ((at'.length : Int), ((j : Int), ())))))))), (at', (r4, ()))) = some ((ps, (i, (nearTo v at' m j best least, (a, (b, ()))))), (at', (r4, ())))
  | 0, j, N, best, least, h1, h2 => by
    obtain _ | N := N
    · omega
    rw [iter_succ, show j = at'.length by omega]
    simp only [L_s_AssignSkin_2, ilt_self, cond_f]
    rfl
  | m + 1, j, N, best, least, h1, h2 => by
    obtain _ | N := N
    · omega
    have hj : j < at'.length := by omega
    have ih := fun best least => s_near ps at' i a b r4 v hi hv hn m (j + 1) N best least (by omega) (by omega)
    rw [iter_succ]
    simp only [L_s_AssignSkin_2]
    simp only [ilt_nat hj, ix_nat hj, hi, hv, iadd_nat (show j < 4611686018427387904 by omega), opt_bind_some, cond_t, c_longV]
    simp only [ih, nearTo]
    generalize longV (t_s_l01Less v (at'.getD j zVec)) = x
    cases flt .f32 x least <;> cases feq .f32 x x <;> cases feq .f32 least least <;> rfl

theorem i_near (at' : List dVec) (a : List dVec) (b c : Int) (r4 : List dSkinPoint) (v : dVec) (hn : at'.length ≤ 1048576) :
    ∀ (m j N : Nat) (best : Int) (least : Nat), j + m = at'.length → m < N → iter L_i_AssignSkin_2 N ((best, (least, (a, (b, (c, ((at'.length : Int), ((j : Int), ()))))))), (at', (r4, ((v, ()), ())))) = some ((nearTo v at' m j best least, (a, (b, (c, ())))), (at', (r4, ((v, ()), ()))))
  | 0, j, N, best, least, h1, h2 => by
    obtain _ | N := N
    · omega
    rw [iter_succ, show j = at'.length by omega]
    simp only [L_i_AssignSkin_2, ilt_self, cond_f]
    rfl
  | m + 1, j, N, best, least, h1, h2 => by
    obtain _ | N := N
    · omega
    have hj : j < at'.length := by omega
    have ih := fun best least => i_near at' a b c r4 v hn m (j + 1) N best least (by omega) (by omega)
    rw [iter_succ]
    simp only [L_i_AssignSkin_2]
    simp only [ilt_nat hj, ix_nat hj, iadd_nat (show j < 4611686018427387904 by omega), opt_bind_some, cond_t, se_LongOf, se_LessVectors, c_longV]
    simp only [ih, nearTo]
    generalize longV (t_s_l01Less v (at'.getD j zVec)) = x
    cases flt .f32 x least <;> cases feq .f32 x x <;> cases feq .f32 least least <;> rfl

def heldBy (at' : List dVec) (v : dVec) : dSkinPoint := (v, ([nearTo v at' at'.length 0 0 (longV (t_s_l01Less v (at'.getD 0 zVec)))], ([1065353216], ())))
theorem held_z (at' : List dVec) : ∀ l : List dVec, szL z_SkinPoint (l.map (heldBy at')) = 3 * l.length
  | [] => rfl
  | v :: l => by
    have hz : ∀ v, z_SkinPoint (heldBy at' v) = 2 := fun v => rfl
    simp only [List.map_cons, szL, hz, held_z at' l, List.length_cons]
    omega

theorem s_assign (ps at' : List dVec) (h : ps.length ≤ 24) (h0 : 1 ≤ at'.length) (h1 : at'.length ≤ 1048576) : iter L_s_AssignSkin_1 fuel ((ps, ((ps.length : Int), (0, ()))), (at', ([], ()))) = some ((), (ps.map (heldBy at'), ())) := by
  refine map_loop (step := L_s_AssignSkin_1) (fun i acc => ((ps, ((ps.length : Int), ((i : Int), ()))), (at', (acc, ())))) (fun acc => ((), (acc, ()))) (heldBy at') ps (fun pre x suf r acc he ha => ?_) (fun r acc => by simp only [L_s_AssignSkin_1, ilt_self, cond_f]) (by omega)
  have hpl : pre.length < ps.length := by rw [he]; simp
  have hx : ps.getD pre.length zVec = x := by rw [he]; exact getD_mid ..
  have hi := ix_nat hpl
  have hz := ix_ok (Int.le_refl 0) (show (0 : Int) < (at'.length : Int) by omega)
  have := s_near ps at' (pre.length : Int) (ps.length : Int) (pre.length : Int) acc x hi hx h1 at'.length 0 fuel 0 (longV (t_s_l01Less x (at'.getD 0 zVec))) (by omega) (by unfold fuel; omega)
  rw [show ((0 : Nat) : Int) = 0 from rfl] at this
  simp only [L_s_AssignSkin_1]
  simp only [ilt_nat hpl, hi, hz, hx, opt_bind_some, cond_t, c_longV, show (0 : Int).toNat = 0 from rfl, this, List.nil_append, List.length_cons, List.length_nil, iadd_nat (show pre.length < 4611686018427387904 by omega)]
  rw [ble_t (by omega)]
  rfl

theorem i_assign (ps at' : List dVec) (h : ps.length ≤ 24) (h0 : 1 ≤ at'.length) (h1 : at'.length ≤ 1048576) : iter L_i_AssignSkin_1 fuel ((ps, ((ps.length : Int), (0, ()))), (at', ([], ()))) = some ((), (ps.map (heldBy at'), ())) := by
  refine map_loop (step := L_i_AssignSkin_1) (fun i acc => ((ps, ((ps.length : Int), ((i : Int), ()))), (at', (acc, ())))) (fun acc => ((), (acc, ()))) (heldBy at') ps (fun pre x suf r acc he ha => ?_) (fun r acc => by simp only [L_i_AssignSkin_1, ilt_self, cond_f]) (by omega)
  have hpl : pre.length < ps.length := by rw [he]; simp
  have hx : ps.getD pre.length zVec = x := by rw [he]; exact getD_mid ..
  have hi := ix_nat hpl
  have hz := ix_ok (Int.le_refl 0) (show (0 : Int) < (at'.length : Int) by omega)
  have := i_near at' ps (ps.length : Int) (pre.length : Int) acc x h1 at'.length 0 fuel 0 (longV (t_s_l01Less x (at'.getD 0 zVec))) (by omega) (by unfold fuel; omega)
  rw [show ((0 : Nat) : Int) = 0 from rfl] at this
  simp only [L_i_AssignSkin_1]
  simp only [ilt_nat hpl, hi, hz, hx, opt_bind_some, cond_t, se_LongOf, se_LessVectors, c_longV, show (0 : Int).toNat = 0 from rfl, this, List.nil_append, List.length_cons, List.length_nil, iadd_nat (show pre.length < 4611686018427387904 by omega)]
  rw [ble_t (by omega)]
  rfl

theorem e_AssignSkin (k : dSkel) (r : dPose) (ps : List dVec) (h : (z_Skel k : Int) ≤ 1048576) (h' : (z_Pose r : Int) ≤ 1048576) (h'' : (szL z_Vec ps : Int) ≤ 1048576) (hok : okPs [.ro true tSkel, .ro true tPose, .ro false (.slice tVec)] (k, r, ps, ())) :
    Same (g_s_AssignSkin k r ps) (g_i_AssignSkin k r ps) fun y => szL z_SkinPoint y.1 ≤ 1048576 := by
  have hl := skel_len h
  unfold g_s_AssignSkin g_i_AssignSkin
  rw [c_s_l03Pose k r hl, c_i_IsPose k r hl]
  simp only [opt_bind_some]
  cases h1 : poseOK k r
  · exact Same.pure (by simp [szL])
  obtain ⟨hk, hr⟩ := poseOK_T h1
  obtain ⟨hn, _, _⟩ := isSkel_T hk
  simp only [bnot_t, cond_f]
  cases h2 : ilt 24 (ps.length : Int)
  rotate_left
  · exact Same.pure (by simp [szL])
  (simp only [ilt_T, ilt_F, ile_T, ile_F, ieq_T, ieq_F, bnot_T, bnot_F, ble_T, ble_F, nz_T, nz_F, nonneg_T, nonneg_F] at h2)
  rw [cond_f, cond_f, c_s_l03World hk hr, c_i_world hk hr]
  simp only [opt_bind_some, List.append_nil]
  rw [s_assign ps _ (by omega) (by rw [wV_len]; omega) (by rw [wV_len]; omega), i_assign ps _ (by omega) (by rw [wV_len]; omega) (by rw [wV_len]; omega)]
  refine Same.pure ?_
  show szL z_SkinPoint (ps.map (heldBy _)) ≤ _
  rw [held_z]; omega

/-! skins -/
theorem isSkin_T {k : dSkel} {ps : List dSkinPoint} (h : isSkin k ps = true) : ps.length ≤ 24 ∧ ∀ j, j < ps.length → t_s_l09Point (ps.getD j zSkinPoint) = true ∧ ∀ i, i < (ps.getD j zSkinPoint).2.1.length → 0 ≤ (ps.getD j zSkinPoint).2.1.getD i 0 ∧ (ps.getD j zSkinPoint).2.1.getD i 0 < k.1.length := by
  unfold isSkin at h
  cases h1 : ile (ps.length : Int) 24
  · rw [h1] at h; cases h
  rw [h1, cond_t] at h
  (simp only [ilt_T, ilt_F, ile_T, ile_F, ieq_T, ieq_F, bnot_T, bnot_F, ble_T, ble_F, nz_T, nz_F, nonneg_T, nonneg_F] at h1)
  refine ⟨by omega, fun j hj => ?_⟩
  have h2 := allFrom_T h j (Nat.zero_le _) (by omega)
  unfold skinPt at h2
  cases h3 : t_s_l09Point (ps.getD j zSkinPoint)
  · rw [h3] at h2; cases h2
  rw [h3, cond_t] at h2
  refine ⟨rfl, fun i hi => ?_⟩
  unfold rises at h2
  have h4 := allFrom_T h2 i (Nat.zero_le _) (by omega)
  unfold risesAt at h4
  cases h5 : t_s_l00In ((ps.getD j zSkinPoint).2.1.getD i 0) 0 ((k.1.length : Int) - 1)
  · rw [h5] at h4; cases h4
  rw [l00In_T] at h5
  omega

structure PtOK (n : Nat) (p : dSkinPoint) : Prop where
  few : 1 ≤ p.2.1.length ∧ p.2.1.length ≤ 4
  same : p.2.2.1.length = p.2.1.length
  bones : ∀ i, i < p.2.1.length → 0 ≤ p.2.1.getD i 0 ∧ p.2.1.getD i 0 < (n : Int)
theorem PtOK.of {k : dSkel} {ps : List dSkinPoint} (h : isSkin k ps = true) {j : Nat} (hj : j < ps.length) : PtOK k.1.length (ps.getD j zSkinPoint) := by
  obtain ⟨h1, h2⟩ := (isSkin_T h).2 j hj
  have := point_T h1
  exact ⟨this.1, this.2, h2⟩
theorem PtOK.ix {n m : Nat} {p : dSkinPoint} (h : PtOK n p) (hm : m = n) {i : Nat} (hi : i < p.2.1.length) : Go.Fw.ix (p.2.1.getD i 0) m = some (p.2.1.getD i 0).toNat := by
  subst hm
  have := h.bones i hi
  exact ix_ok this.1 this.2

/-! linear skins -/
end Go.Fw
