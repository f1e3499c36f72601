/- What the laws' own functions compute. No condition. -/
import Derived.Test.YtobcfldhacdpiaaGreatFwE
import Derived.Test.YtobcfldhacdpiaaGreatAPure
set_option linter.unusedVariables false
set_option linter.unusedSimpArgs false
namespace Go.Fw
def c_F32 (_ : Nat) : Nat := 1
def m_F32 (_ : Nat) (k : Int) : Nat := fofInt .f32 k
def z_F32 (_ : Nat) : Nat := 0
theorem b1_F32 (x : Nat) : c_F32 x ≤ 16 * (1 + z_F32 x) := by unfold c_F32 z_F32; omega
theorem c_w_toFloat32S (a : (List Nat)) (h : szL z_F32 a ≤ 1073741824) : g_w_toFloat32S a = some (a) := by
  have hl := szL_len (s := z_F32) a
  unfold g_w_toFloat32S
  rw [mkOk_t (by omega) (by omega) (by omega), cond_t]
  have := to_loop (step := L_w_toFloat32S_1) (z := (0 : Nat)) (p := fun x => z_F32 x ≤ 1073741824) (fun rec' pre x suf r hp hb => by
    have hb2 := hb; rw [List.length_append, List.length_cons] at hb2; have hp2 := hp; try unfold z_F32 at hp2
    simp (disch := first | omega | assumption) only [L_w_toFloat32S_1, ilt_mid, ix_mid, getD_mid, set_mid, iadd_ok, opt_bind_some, cond_t, cond_f, bnot_t, bnot_f, cond_same, ieq_self, beqB_self]) (fun rec' a => by simp only [L_w_toFloat32S_1, ilt_end, cond_f]) a [] fuel (fun x hx => Nat.le_trans (szL_mem hx) h) (by simp only [List.nil_append]; omega) (by unfold fuel; omega)
  simp only [List.nil_append, List.length_nil] at this
  rw [show ((0 : Nat) : Int) = 0 from rfl] at this
  first | rw [this] | (simp only [z_consts] at this ⊢; rw [this])
  rfl
theorem c_w_sameFloat (a : Nat) : t_w_sameFloat a a = true := by
  unfold t_w_sameFloat; cases feq .f64 a a <;> cases feq .f64 a 0 <;> simp [beqB_self]
theorem c_w_eqFloat32S (a : (List Nat)) (h : szL z_F32 a ≤ 1073741824) : g_w_eqFloat32S a a = some true := by
  have hl := szL_len (s := z_F32) a
  unfold g_w_eqFloat32S
  rw [ieq_self, bnot_t, cond_f]
  have := eq_loop (step := L_w_eqFloat32S_1) (p := fun x => z_F32 x ≤ 1073741824) (fun rec' pre x suf t hp hb => by
    have hb2 := hb; rw [List.length_append, List.length_cons] at hb2; have hp2 := hp; try unfold z_F32 at hp2
    simp (disch := first | omega | assumption) only [L_w_eqFloat32S_1, ilt_mid, ix_mid, getD_mid, iadd_ok, opt_bind_some, cond_t, cond_f, bnot_t, bnot_f, cond_same, ieq_self, beqB_self, c_w_sameFloat]) (fun rec' a t => by simp only [L_w_eqFloat32S_1, ilt_end, cond_f]) a [] fuel false (fun x hx => Nat.le_trans (szL_mem hx) h) (by simp only [List.nil_append]; omega) (by unfold fuel; omega)
  simp only [List.nil_append, List.length_nil] at this
  rw [show ((0 : Nat) : Int) = 0 from rfl] at this
  rw [this]
  rfl
theorem c_w_eqVector (a : dVec) : t_w_eqVector a a = true := by
  unfold t_w_eqVector; simp only [opt_bind_some, cond_t, cond_f, bnot_t, bnot_f, cond_same, ieq_self, beqB_self, c_w_sameFloat]
theorem c_w_markFloat32S (a : (List Nat)) (k : Int) (h : szL z_F32 a ≤ 1073741824) (h0 : 0 ≤ k) (hk : k + sumL c_F32 a < 4611686018427387904) : g_w_markFloat32S a k = some (k + sumL c_F32 a, (mkL m_F32 c_F32 a k, (k, ()))) := by
  have hl := szL_len (s := z_F32) a
  unfold g_w_markFloat32S
  have := mark_loop (step := L_w_markFloat32S_1) (m := m_F32) (c := c_F32) (p := fun x => z_F32 x ≤ 1073741824) (fun rec' pre x suf k hp h0 hk hb => by
    have hb2 := hb; rw [List.length_append, List.length_cons] at hb2; have hk2 := hk; simp only [c_F32] at hk2
    simp (disch := omega) only [L_w_markFloat32S_1, ilt_mid, ix_mid, getD_mid, set_mid, iadd_ok, opt_bind_some, cond_t, cond_f, bnot_t, bnot_f, cond_same, ieq_self, beqB_self]
    simp only [c_F32, m_F32, z_F32, Int.natCast_add, Int.cast_ofNat_Int, Int.add_assoc, Int.reduceAdd, Int.natCast_one]) (fun rec' a k => by simp only [L_w_markFloat32S_1, ilt_end, cond_f]) a [] fuel k (fun x hx => Nat.le_trans (szL_mem hx) h) h0 hk (by simp only [List.nil_append]; omega) (by unfold fuel; omega)
  simp only [List.nil_append, List.length_nil] at this
  rw [show ((0 : Nat) : Int) = 0 from rfl] at this
  rw [this]
  rfl
def c_Turn (x : dTurn) : Nat := 4
def m_Turn (x : dTurn) (k : Int) : dTurn := (fofInt .f32 (k), (fofInt .f32 (k + 1), (fofInt .f32 (k + 1 + 1), (fofInt .f32 (k + 1 + 1 + 1), ()))))
def z_Turn (x : dTurn) : Nat := 0
theorem b1_Turn (x : dTurn) : c_Turn x ≤ 16 * (1 + z_Turn x) := by  unfold c_Turn z_Turn; omega
theorem c_w_eqTurn (a : dTurn) : t_w_eqTurn a a = true := by
  unfold t_w_eqTurn; simp only [opt_bind_some, cond_t, cond_f, bnot_t, bnot_f, cond_same, ieq_self, beqB_self, c_w_sameFloat]
theorem c_w_eqTurnS (a : (List dTurn)) (h : szL z_Turn a ≤ 1073741824) : g_w_eqTurnS a a = some true := by
  have hl := szL_len (s := z_Turn) a
  unfold g_w_eqTurnS
  rw [ieq_self, bnot_t, cond_f]
  have := eq_loop (step := L_w_eqTurnS_1) (p := fun x => z_Turn x ≤ 1073741824) (fun rec' pre x suf t hp hb => by
    have hb2 := hb; rw [List.length_append, List.length_cons] at hb2; have hp2 := hp; try unfold z_Turn at hp2
    simp (disch := first | omega | assumption) only [L_w_eqTurnS_1, ilt_mid, ix_mid, getD_mid, iadd_ok, opt_bind_some, cond_t, cond_f, bnot_t, bnot_f, cond_same, ieq_self, beqB_self, c_w_eqTurn]) (fun rec' a t => by simp only [L_w_eqTurnS_1, ilt_end, cond_f]) a [] fuel false (fun x hx => Nat.le_trans (szL_mem hx) h) (by simp only [List.nil_append]; omega) (by unfold fuel; omega)
  simp only [List.nil_append, List.length_nil] at this
  rw [show ((0 : Nat) : Int) = 0 from rfl] at this
  rw [this]
  rfl
def z_Pose (x : dPose) : Nat := szL z_Turn x.2.1
def cv_Pose (x : dPose) : Nat := sumL c_Turn x.2.1
def mv_Pose (x : dPose) (k : Int) : dPose := ((x.1.1, (x.1.2.1, (x.1.2.2.1, ()))), (mkL m_Turn c_Turn x.2.1 (k), ()))
theorem bv_Pose (x : dPose) : cv_Pose x ≤ 16 * z_Pose x := by have := sumL_le b1_Turn x.2.1; unfold cv_Pose z_Pose; omega
theorem c_w_eqPose (a : dPose) (h : z_Pose a ≤ 1073741824) : g_w_eqPose a a = some true := by
  unfold z_Pose at h; unfold g_w_eqPose; simp (disch := omega) only [opt_bind_some, cond_t, cond_f, bnot_t, bnot_f, cond_same, ieq_self, beqB_self, c_w_eqVector, c_w_eqTurnS]
theorem c_w_markTurnS (a : (List dTurn)) (k : Int) (h : szL z_Turn a ≤ 1073741824) (h0 : 0 ≤ k) (hk : k + sumL c_Turn a < 4611686018427387904) : g_w_markTurnS a k = some (k + sumL c_Turn a, (mkL m_Turn c_Turn a k, (k, ()))) := by
  have hl := szL_len (s := z_Turn) a
  unfold g_w_markTurnS
  have := mark_loop (step := L_w_markTurnS_1) (m := m_Turn) (c := c_Turn) (p := fun x => z_Turn x ≤ 1073741824) (fun rec' pre x suf k hp h0 hk hb => by
    have hb2 := hb; rw [List.length_append, List.length_cons] at hb2; have hk2 := hk; have hp2 := hp; simp only [c_Turn, z_Turn, Int.natCast_add] at hk2 hp2
    simp (disch := omega) only [L_w_markTurnS_1, ilt_mid, ix_mid, getD_mid, set_mid, iadd_ok, opt_bind_some, cond_t, cond_f, bnot_t, bnot_f, cond_same, ieq_self, beqB_self]
    simp only [c_Turn, m_Turn, z_Turn, Int.natCast_add, Int.cast_ofNat_Int, Int.add_assoc, Int.reduceAdd, Int.natCast_one]) (fun rec' a k => by simp only [L_w_markTurnS_1, ilt_end, cond_f]) a [] fuel k (fun x hx => Nat.le_trans (szL_mem hx) h) h0 hk (by simp only [List.nil_append]; omega) (by unfold fuel; omega)
  simp only [List.nil_append, List.length_nil] at this
  rw [show ((0 : Nat) : Int) = 0 from rfl] at this
  rw [this]
  rfl
theorem c_w_markPose (a : dPose) (k : Int) (h : z_Pose a ≤ 1073741824) (h0 : 0 ≤ k) (hk : k + cv_Pose a < 4611686018427387904) : g_w_markPose a k = some (k + cv_Pose a, (mv_Pose a k, (k, ()))) := by
  unfold z_Pose at h; unfold cv_Pose at hk; unfold g_w_markPose
  try simp only [Int.natCast_add] at hk
  simp (disch := omega) only [opt_bind_some, c_w_markTurnS, cv_Pose, mv_Pose, Int.natCast_add, Int.add_assoc]
theorem c_w_heldTurnS (a : (List dTurn)) (k : Int) (h : szL z_Turn a ≤ 1073741824) (h0 : 0 ≤ k) (hk : k + sumL c_Turn a < 4611686018427387904) : g_w_heldTurnS (mkL m_Turn c_Turn a k) k = some (k + sumL c_Turn a) := by
  have hl := szL_len (s := z_Turn) a
  unfold g_w_heldTurnS
  have := held_loop (step := L_w_heldTurnS_1) (m := m_Turn) (c := c_Turn) (p := fun x => z_Turn x ≤ 1073741824) (fun rec' pre x suf k t hp h0 hk hb => by
    have hb2 := hb; rw [List.length_append, List.length_cons] at hb2; have hk2 := hk; have hp2 := hp; simp only [c_Turn, z_Turn, Int.natCast_add] at hk2 hp2
    simp (disch := omega) only [L_w_heldTurnS_1, ilt_mid, ix_mid, getD_mid, iadd_ok, ilt_f, feq_fofInt, opt_bind_some, cond_t, cond_f, bnot_t, bnot_f, cond_same, ieq_self, beqB_self]
    simp (disch := omega) only [c_Turn, m_Turn, z_Turn, opt_bind_some, ilt_f, feq_fofInt, opt_bind_some, cond_t, cond_f, bnot_t, bnot_f, cond_same, ieq_self, beqB_self, Int.natCast_add, Int.cast_ofNat_Int, Int.add_assoc, Int.reduceAdd, Int.natCast_one]) (fun rec' a k t => by simp only [L_w_heldTurnS_1, ilt_end, cond_f]) a [] fuel k 0 (fun x hx => Nat.le_trans (szL_mem hx) h) h0 hk (by simp only [List.nil_append, mkL_length]; omega) (by unfold fuel; omega)
  simp only [List.nil_append, List.length_nil] at this
  rw [show ((0 : Nat) : Int) = 0 from rfl] at this
  rw [this]
  rfl
theorem c_w_heldPose (a : dPose) (k : Int) (h : z_Pose a ≤ 1073741824) (h0 : 0 ≤ k) (hk : k + cv_Pose a < 4611686018427387904) : g_w_heldPose (mv_Pose a k) k = some (k + cv_Pose a) := by
  unfold z_Pose at h; unfold cv_Pose at hk; unfold g_w_heldPose
  try simp only [Int.natCast_add] at hk
  simp (disch := omega) only [mv_Pose, opt_bind_some, c_w_heldTurnS, ilt_f, cond_f, cv_Pose, Int.natCast_add, Int.add_assoc]
end Go.Fw
