/- What the laws' own functions compute. No condition. -/
import Derived.Test.YtmfmdoppjcaedaaFwE
import Derived.Test.YtmfmdoppjcaedaaUPure
set_option linter.unusedVariables false
set_option linter.unusedSimpArgs false
namespace Go.Fw
theorem c_w_toPacking (a : dPacking) : t_w_toPacking a = a := rfl
theorem c_w_sameFloat (a : Nat) : t_w_sameFloat a a = true := by
  unfold t_w_sameFloat; cases feq .f64 a a <;> cases feq .f64 a 0 <;> simp [beqB_self]
theorem c_w_eqVector (a : dVec) : t_w_eqVector a a = true := by
  unfold t_w_eqVector; simp only [opt_bind_some, cond_t, cond_f, bnot_t, bnot_f, cond_same, ieq_self, beqB_self, c_w_sameFloat]
def c_Turn (x : dTurn) : Nat := 4
def m_Turn (x : dTurn) (k : Int) : dTurn := (fofInt .f32 (k), (fofInt .f32 (k + 1), (fofInt .f32 (k + 1 + 1), (fofInt .f32 (k + 1 + 1 + 1), ()))))
def z_Turn (x : dTurn) : Nat := 0
theorem b1_Turn (x : dTurn) : c_Turn x ≤ 16 * (1 + z_Turn x) := by  unfold c_Turn z_Turn; omega
theorem c_w_eqTurn (a : dTurn) : t_w_eqTurn a a = true := by
  unfold t_w_eqTurn; simp only [opt_bind_some, cond_t, cond_f, bnot_t, bnot_f, cond_same, ieq_self, beqB_self, c_w_sameFloat]
theorem c_w_eqTurnS (a : (List dTurn)) (h : szL z_Turn a ≤ 1073741824) : g_w_eqTurnS a a = some true := by
  have hl := szL_len (s := z_Turn) a
  unfold g_w_eqTurnS
  rw [ieq_self, bnot_t, cond_f]
  have := eq_loop (step := L_w_eqTurnS_1) (p := fun x => z_Turn x ≤ 1073741824) (fun rec' pre x suf t hp hb => by
    have hb2 := hb; rw [List.length_append, List.length_cons] at hb2; have hp2 := hp; try unfold z_Turn at hp2
    simp (disch := first | omega | assumption) only [L_w_eqTurnS_1, ilt_mid, ix_mid, getD_mid, iadd_ok, opt_bind_some, cond_t, cond_f, bnot_t, bnot_f, cond_same, ieq_self, beqB_self, c_w_eqTurn]) (fun rec' a t => by simp only [L_w_eqTurnS_1, ilt_end, cond_f]) a [] fuel false (fun x hx => Nat.le_trans (szL_mem hx) h) (by simp only [List.nil_append]; omega) (by unfold fuel; omega)
  simp only [List.nil_append, List.length_nil] at this
  rw [show ((0 : Nat) : Int) = 0 from rfl] at this
  rw [this]
  rfl
def c_Pose (x : dPose) : Nat := 3 + sumL c_Turn x.2.1
def m_Pose (x : dPose) (k : Int) : dPose := ((fofInt .f32 (k), (fofInt .f32 (k + 1), (fofInt .f32 (k + 1 + 1), ()))), (mkL m_Turn c_Turn x.2.1 (k + 1 + 1 + 1), ()))
def z_Pose (x : dPose) : Nat := szL z_Turn x.2.1
theorem b1_Pose (x : dPose) : c_Pose x ≤ 16 * (1 + z_Pose x) := by have := sumL_le b1_Turn x.2.1; unfold c_Pose z_Pose; omega
theorem c_w_eqPose (a : dPose) (h : z_Pose a ≤ 1073741824) : g_w_eqPose a a = some true := by
  unfold z_Pose at h; unfold g_w_eqPose; simp (disch := omega) only [opt_bind_some, cond_t, cond_f, bnot_t, bnot_f, cond_same, ieq_self, beqB_self, c_w_eqVector, c_w_eqTurnS]
theorem c_w_eqPoseS (a : (List dPose)) (h : szL z_Pose a ≤ 1073741824) : g_w_eqPoseS a a = some true := by
  have hl := szL_len (s := z_Pose) a
  unfold g_w_eqPoseS
  rw [ieq_self, bnot_t, cond_f]
  have := eq_loop (step := L_w_eqPoseS_1) (p := fun x => z_Pose x ≤ 1073741824) (fun rec' pre x suf t hp hb => by
    have hb2 := hb; rw [List.length_append, List.length_cons] at hb2; have hp2 := hp; try unfold z_Pose at hp2
    simp (disch := first | omega | assumption) only [L_w_eqPoseS_1, ilt_mid, ix_mid, getD_mid, iadd_ok, opt_bind_some, cond_t, cond_f, bnot_t, bnot_f, cond_same, ieq_self, beqB_self, c_w_eqPose]) (fun rec' a t => by simp only [L_w_eqPoseS_1, ilt_end, cond_f]) a [] fuel false (fun x hx => Nat.le_trans (szL_mem hx) h) (by simp only [List.nil_append]; omega) (by unfold fuel; omega)
  simp only [List.nil_append, List.length_nil] at this
  rw [show ((0 : Nat) : Int) = 0 from rfl] at this
  rw [this]
  rfl
theorem c_w_markTurnS (a : (List dTurn)) (k : Int) (h : szL z_Turn a ≤ 1073741824) (h0 : 0 ≤ k) (hk : k + sumL c_Turn a < 4611686018427387904) : g_w_markTurnS a k = some (k + sumL c_Turn a, (mkL m_Turn c_Turn a k, (k, ()))) := by
  have hl := szL_len (s := z_Turn) a
  unfold g_w_markTurnS
  have := mark_loop (step := L_w_markTurnS_1) (m := m_Turn) (c := c_Turn) (p := fun x => z_Turn x ≤ 1073741824) (fun rec' pre x suf k hp h0 hk hb => by
    have hb2 := hb; rw [List.length_append, List.length_cons] at hb2; have hk2 := hk; have hp2 := hp; simp only [c_Turn, z_Turn, Int.natCast_add] at hk2 hp2
    simp (disch := omega) only [L_w_markTurnS_1, ilt_mid, ix_mid, getD_mid, set_mid, iadd_ok, opt_bind_some, cond_t, cond_f, bnot_t, bnot_f, cond_same, ieq_self, beqB_self]
    simp only [c_Turn, m_Turn, z_Turn, Int.natCast_add, Int.cast_ofNat_Int, Int.add_assoc, Int.reduceAdd, Int.natCast_one]) (fun rec' a k => by simp only [L_w_markTurnS_1, ilt_end, cond_f]) a [] fuel k (fun x hx => Nat.le_trans (szL_mem hx) h) h0 hk (by simp only [List.nil_append]; omega) (by unfold fuel; omega)
  simp only [List.nil_append, List.length_nil] at this
  rw [show ((0 : Nat) : Int) = 0 from rfl] at this
  rw [this]
  rfl
theorem c_w_markPoseS (a : (List dPose)) (k : Int) (h : szL z_Pose a ≤ 1073741824) (h0 : 0 ≤ k) (hk : k + sumL c_Pose a < 4611686018427387904) : g_w_markPoseS a k = some (k + sumL c_Pose a, (mkL m_Pose c_Pose a k, (k, ()))) := by
  have hl := szL_len (s := z_Pose) a
  unfold g_w_markPoseS
  have := mark_loop (step := L_w_markPoseS_1) (m := m_Pose) (c := c_Pose) (p := fun x => z_Pose x ≤ 1073741824) (fun rec' pre x suf k hp h0 hk hb => by
    have hb2 := hb; rw [List.length_append, List.length_cons] at hb2; have hk2 := hk; have hp2 := hp; simp only [c_Pose, z_Pose, Int.natCast_add] at hk2 hp2
    simp (disch := omega) only [L_w_markPoseS_1, ilt_mid, ix_mid, getD_mid, set_mid, iadd_ok, opt_bind_some, cond_t, cond_f, bnot_t, bnot_f, cond_same, ieq_self, beqB_self, c_w_markTurnS]
    simp only [c_Pose, m_Pose, z_Pose, Int.natCast_add, Int.cast_ofNat_Int, Int.add_assoc, Int.reduceAdd, Int.natCast_one]) (fun rec' a k => by simp only [L_w_markPoseS_1, ilt_end, cond_f]) a [] fuel k (fun x hx => Nat.le_trans (szL_mem hx) h) h0 hk (by simp only [List.nil_append]; omega) (by unfold fuel; omega)
  simp only [List.nil_append, List.length_nil] at this
  rw [show ((0 : Nat) : Int) = 0 from rfl] at this
  rw [this]
  rfl
theorem c_w_heldTurnS (a : (List dTurn)) (k : Int) (h : szL z_Turn a ≤ 1073741824) (h0 : 0 ≤ k) (hk : k + sumL c_Turn a < 4611686018427387904) : g_w_heldTurnS (mkL m_Turn c_Turn a k) k = some (k + sumL c_Turn a) := by
  have hl := szL_len (s := z_Turn) a
  unfold g_w_heldTurnS
  have := held_loop (step := L_w_heldTurnS_1) (m := m_Turn) (c := c_Turn) (p := fun x => z_Turn x ≤ 1073741824) (fun rec' pre x suf k t hp h0 hk hb => by
    have hb2 := hb; rw [List.length_append, List.length_cons] at hb2; have hk2 := hk; have hp2 := hp; simp only [c_Turn, z_Turn, Int.natCast_add] at hk2 hp2
    simp (disch := omega) only [L_w_heldTurnS_1, ilt_mid, ix_mid, getD_mid, iadd_ok, ilt_f, feq_fofInt, opt_bind_some, cond_t, cond_f, bnot_t, bnot_f, cond_same, ieq_self, beqB_self]
    simp (disch := omega) only [c_Turn, m_Turn, z_Turn, opt_bind_some, ilt_f, feq_fofInt, opt_bind_some, cond_t, cond_f, bnot_t, bnot_f, cond_same, ieq_self, beqB_self, Int.natCast_add, Int.cast_ofNat_Int, Int.add_assoc, Int.reduceAdd, Int.natCast_one]) (fun rec' a k t => by simp only [L_w_heldTurnS_1, ilt_end, cond_f]) a [] fuel k 0 (fun x hx => Nat.le_trans (szL_mem hx) h) h0 hk (by simp only [List.nil_append, mkL_length]; omega) (by unfold fuel; omega)
  simp only [List.nil_append, List.length_nil] at this
  rw [show ((0 : Nat) : Int) = 0 from rfl] at this
  rw [this]
  rfl
theorem c_w_heldPoseS (a : (List dPose)) (k : Int) (h : szL z_Pose a ≤ 1073741824) (h0 : 0 ≤ k) (hk : k + sumL c_Pose a < 4611686018427387904) : g_w_heldPoseS (mkL m_Pose c_Pose a k) k = some (k + sumL c_Pose a) := by
  have hl := szL_len (s := z_Pose) a
  unfold g_w_heldPoseS
  have := held_loop (step := L_w_heldPoseS_1) (m := m_Pose) (c := c_Pose) (p := fun x => z_Pose x ≤ 1073741824) (fun rec' pre x suf k t hp h0 hk hb => by
    have hb2 := hb; rw [List.length_append, List.length_cons] at hb2; have hk2 := hk; have hp2 := hp; simp only [c_Pose, z_Pose, Int.natCast_add] at hk2 hp2
    simp (disch := omega) only [L_w_heldPoseS_1, ilt_mid, ix_mid, getD_mid, iadd_ok, ilt_f, feq_fofInt, opt_bind_some, cond_t, cond_f, bnot_t, bnot_f, cond_same, ieq_self, beqB_self, c_w_heldTurnS]
    simp (disch := omega) only [c_Pose, m_Pose, z_Pose, opt_bind_some, ilt_f, feq_fofInt, opt_bind_some, cond_t, cond_f, bnot_t, bnot_f, cond_same, ieq_self, beqB_self, c_w_heldTurnS, Int.natCast_add, Int.cast_ofNat_Int, Int.add_assoc, Int.reduceAdd, Int.natCast_one]) (fun rec' a k t => by simp only [L_w_heldPoseS_1, ilt_end, cond_f]) a [] fuel k 0 (fun x hx => Nat.le_trans (szL_mem hx) h) h0 hk (by simp only [List.nil_append, mkL_length]; omega) (by unfold fuel; omega)
  simp only [List.nil_append, List.length_nil] at this
  rw [show ((0 : Nat) : Int) = 0 from rfl] at this
  rw [this]
  rfl
end Go.Fw
