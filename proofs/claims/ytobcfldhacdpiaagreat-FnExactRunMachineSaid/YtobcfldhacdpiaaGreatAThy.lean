/- What the laws' own functions compute. No condition. -/
import Derived.Test.YtobcfldhacdpiaaGreatFwE
import Derived.Test.YtobcfldhacdpiaaGreatAPure
set_option linter.unusedVariables false
set_option linter.unusedSimpArgs false
namespace Go.Fw
def c_F32 (_ : Nat) : Nat := 1
def m_F32 (_ : Nat) (k : Int) : Nat := fofInt .f32 k
def z_F32 (_ : Nat) : Nat := 0
theorem b1_F32 (x : Nat) : c_F32 x ≤ 16 * (1 + z_F32 x) := by unfold c_F32 z_F32; omega
def c_F32S (x : (List Nat)) : Nat := sumL c_F32 x
def m_F32S (x : (List Nat)) (k : Int) : (List Nat) := mkL m_F32 c_F32 x k
def z_F32S (x : (List Nat)) : Nat := szL z_F32 x
theorem b_F32S (x : (List Nat)) : c_F32S x ≤ 16 * z_F32S x := sumL_le b1_F32 x
theorem b1_F32S (x : (List Nat)) : c_F32S x ≤ 16 * (1 + z_F32S x) := by have := b_F32S x; omega
theorem c_w_toFloat32S (a : (List Nat)) (h : szL z_F32 a ≤ 1073741824) : g_w_toFloat32S a = some (a) := by
  have hl := szL_len (s := z_F32) a
  unfold g_w_toFloat32S
  rw [mkOk_t (by omega) (by omega) (by omega), cond_t]
  have := to_loop (step := L_w_toFloat32S_1) (z := (0 : Nat)) (p := fun x => z_F32 x ≤ 1073741824) (fun rec' pre x suf r hp hb => by
    have hb2 := hb; rw [List.length_append, List.length_cons] at hb2; have hp2 := hp; try unfold z_F32 at hp2
    simp (disch := first | omega | assumption) only [L_w_toFloat32S_1, ilt_mid, ix_mid, getD_mid, set_mid, iadd_ok, opt_bind_some, cond_t, cond_f, bnot_t, bnot_f, cond_same, ieq_self, beqB_self]) (fun rec' a => by simp only [L_w_toFloat32S_1, ilt_end, cond_f]) a [] fuel (fun x hx => Nat.le_trans (szL_mem hx) h) (by simp only [List.nil_append]; omega) (by unfold fuel; omega)
  simp only [List.nil_append, List.length_nil] at this
  rw [show ((0 : Nat) : Int) = 0 from rfl] at this
  first | rw [this] | (simp only [z_consts] at this ⊢; rw [this])
  rfl
theorem c_w_sameFloat (a : Nat) : t_w_sameFloat a a = true := by
  unfold t_w_sameFloat; cases feq .f64 a a <;> cases feq .f64 a 0 <;> simp [beqB_self]
theorem c_w_eqFloat32S (a : (List Nat)) (h : szL z_F32 a ≤ 1073741824) : g_w_eqFloat32S a a = some true := by
  have hl := szL_len (s := z_F32) a
  unfold g_w_eqFloat32S
  rw [ieq_self, bnot_t, cond_f]
  have := eq_loop (step := L_w_eqFloat32S_1) (p := fun x => z_F32 x ≤ 1073741824) (fun rec' pre x suf t hp hb => by
    have hb2 := hb; rw [List.length_append, List.length_cons] at hb2; have hp2 := hp; try unfold z_F32 at hp2
    simp (disch := first | omega | assumption) only [L_w_eqFloat32S_1, ilt_mid, ix_mid, getD_mid, iadd_ok, opt_bind_some, cond_t, cond_f, bnot_t, bnot_f, cond_same, ieq_self, beqB_self, c_w_sameFloat]) (fun rec' a t => by simp only [L_w_eqFloat32S_1, ilt_end, cond_f]) a [] fuel false (fun x hx => Nat.le_trans (szL_mem hx) h) (by simp only [List.nil_append]; omega) (by unfold fuel; omega)
  simp only [List.nil_append, List.length_nil] at this
  rw [show ((0 : Nat) : Int) = 0 from rfl] at this
  rw [this]
  rfl
theorem c_w_eqVector (a : dVec) : t_w_eqVector a a = true := by
  unfold t_w_eqVector; simp only [opt_bind_some, cond_t, cond_f, bnot_t, bnot_f, cond_same, ieq_self, beqB_self, c_w_sameFloat]
theorem c_w_markFloat32S (a : (List Nat)) (k : Int) (h : szL z_F32 a ≤ 1073741824) (h0 : 0 ≤ k) (hk : k + sumL c_F32 a < 4611686018427387904) : g_w_markFloat32S a k = some (k + sumL c_F32 a, (mkL m_F32 c_F32 a k, (k, ()))) := by
  have hl := szL_len (s := z_F32) a
  unfold g_w_markFloat32S
  have := mark_loop (step := L_w_markFloat32S_1) (m := m_F32) (c := c_F32) (p := fun x => z_F32 x ≤ 1073741824) (fun rec' pre x suf k hp h0 hk hb => by
    have hb2 := hb; rw [List.length_append, List.length_cons] at hb2; have hk2 := hk; simp only [c_F32] at hk2
    simp (disch := omega) only [L_w_markFloat32S_1, ilt_mid, ix_mid, getD_mid, set_mid, iadd_ok, opt_bind_some, cond_t, cond_f, bnot_t, bnot_f, cond_same, ieq_self, beqB_self]
    simp only [c_F32, m_F32, z_F32, Int.natCast_add, Int.cast_ofNat_Int, Int.add_assoc, Int.reduceAdd, Int.natCast_one]) (fun rec' a k => by simp only [L_w_markFloat32S_1, ilt_end, cond_f]) a [] fuel k (fun x hx => Nat.le_trans (szL_mem hx) h) h0 hk (by simp only [List.nil_append]; omega) (by unfold fuel; omega)
  simp only [List.nil_append, List.length_nil] at this
  rw [show ((0 : Nat) : Int) = 0 from rfl] at this
  rw [this]
  rfl
def c_Turn (x : dTurn) : Nat := 4
def m_Turn (x : dTurn) (k : Int) : dTurn := (fofInt .f32 (k), (fofInt .f32 (k + 1), (fofInt .f32 (k + 1 + 1), (fofInt .f32 (k + 1 + 1 + 1), ()))))
def z_Turn (x : dTurn) : Nat := 0
theorem b1_Turn (x : dTurn) : c_Turn x ≤ 16 * (1 + z_Turn x) := by  unfold c_Turn z_Turn; omega
theorem c_w_eqTurn (a : dTurn) : t_w_eqTurn a a = true := by
  unfold t_w_eqTurn; simp only [opt_bind_some, cond_t, cond_f, bnot_t, bnot_f, cond_same, ieq_self, beqB_self, c_w_sameFloat]
theorem c_w_eqTurnS (a : (List dTurn)) (h : szL z_Turn a ≤ 1073741824) : g_w_eqTurnS a a = some true := by
  have hl := szL_len (s := z_Turn) a
  unfold g_w_eqTurnS
  rw [ieq_self, bnot_t, cond_f]
  have := eq_loop (step := L_w_eqTurnS_1) (p := fun x => z_Turn x ≤ 1073741824) (fun rec' pre x suf t hp hb => by
    have hb2 := hb; rw [List.length_append, List.length_cons] at hb2; have hp2 := hp; try unfold z_Turn at hp2
    simp (disch := first | omega | assumption) only [L_w_eqTurnS_1, ilt_mid, ix_mid, getD_mid, iadd_ok, opt_bind_some, cond_t, cond_f, bnot_t, bnot_f, cond_same, ieq_self, beqB_self, c_w_eqTurn]) (fun rec' a t => by simp only [L_w_eqTurnS_1, ilt_end, cond_f]) a [] fuel false (fun x hx => Nat.le_trans (szL_mem hx) h) (by simp only [List.nil_append]; omega) (by unfold fuel; omega)
  simp only [List.nil_append, List.length_nil] at this
  rw [show ((0 : Nat) : Int) = 0 from rfl] at this
  rw [this]
  rfl
def c_Pose (x : dPose) : Nat := 3 + sumL c_Turn x.2.1
def m_Pose (x : dPose) (k : Int) : dPose := ((fofInt .f32 (k), (fofInt .f32 (k + 1), (fofInt .f32 (k + 1 + 1), ()))), (mkL m_Turn c_Turn x.2.1 (k + 1 + 1 + 1), ()))
def z_Pose (x : dPose) : Nat := szL z_Turn x.2.1
theorem b1_Pose (x : dPose) : c_Pose x ≤ 16 * (1 + z_Pose x) := by have := sumL_le b1_Turn x.2.1; unfold c_Pose z_Pose; omega
theorem c_w_eqPose (a : dPose) (h : z_Pose a ≤ 1073741824) : g_w_eqPose a a = some true := by
  unfold z_Pose at h; unfold g_w_eqPose; simp (disch := omega) only [opt_bind_some, cond_t, cond_f, bnot_t, bnot_f, cond_same, ieq_self, beqB_self, c_w_eqVector, c_w_eqTurnS]
theorem c_w_markTurnS (a : (List dTurn)) (k : Int) (h : szL z_Turn a ≤ 1073741824) (h0 : 0 ≤ k) (hk : k + sumL c_Turn a < 4611686018427387904) : g_w_markTurnS a k = some (k + sumL c_Turn a, (mkL m_Turn c_Turn a k, (k, ()))) := by
  have hl := szL_len (s := z_Turn) a
  unfold g_w_markTurnS
  have := mark_loop (step := L_w_markTurnS_1) (m := m_Turn) (c := c_Turn) (p := fun x => z_Turn x ≤ 1073741824) (fun rec' pre x suf k hp h0 hk hb => by
    have hb2 := hb; rw [List.length_append, List.length_cons] at hb2; have hk2 := hk; have hp2 := hp; simp only [c_Turn, z_Turn, Int.natCast_add] at hk2 hp2
    simp (disch := omega) only [L_w_markTurnS_1, ilt_mid, ix_mid, getD_mid, set_mid, iadd_ok, opt_bind_some, cond_t, cond_f, bnot_t, bnot_f, cond_same, ieq_self, beqB_self]
    simp only [c_Turn, m_Turn, z_Turn, Int.natCast_add, Int.cast_ofNat_Int, Int.add_assoc, Int.reduceAdd, Int.natCast_one]) (fun rec' a k => by simp only [L_w_markTurnS_1, ilt_end, cond_f]) a [] fuel k (fun x hx => Nat.le_trans (szL_mem hx) h) h0 hk (by simp only [List.nil_append]; omega) (by unfold fuel; omega)
  simp only [List.nil_append, List.length_nil] at this
  rw [show ((0 : Nat) : Int) = 0 from rfl] at this
  rw [this]
  rfl
theorem c_w_heldTurnS (a : (List dTurn)) (k : Int) (h : szL z_Turn a ≤ 1073741824) (h0 : 0 ≤ k) (hk : k + sumL c_Turn a < 4611686018427387904) : g_w_heldTurnS (mkL m_Turn c_Turn a k) k = some (k + sumL c_Turn a) := by
  have hl := szL_len (s := z_Turn) a
  unfold g_w_heldTurnS
  have := held_loop (step := L_w_heldTurnS_1) (m := m_Turn) (c := c_Turn) (p := fun x => z_Turn x ≤ 1073741824) (fun rec' pre x suf k t hp h0 hk hb => by
    have hb2 := hb; rw [List.length_append, List.length_cons] at hb2; have hk2 := hk; have hp2 := hp; simp only [c_Turn, z_Turn, Int.natCast_add] at hk2 hp2
    simp (disch := omega) only [L_w_heldTurnS_1, ilt_mid, ix_mid, getD_mid, iadd_ok, ilt_f, feq_fofInt, opt_bind_some, cond_t, cond_f, bnot_t, bnot_f, cond_same, ieq_self, beqB_self]
    simp (disch := omega) only [c_Turn, m_Turn, z_Turn, opt_bind_some, ilt_f, feq_fofInt, opt_bind_some, cond_t, cond_f, bnot_t, bnot_f, cond_same, ieq_self, beqB_self, Int.natCast_add, Int.cast_ofNat_Int, Int.add_assoc, Int.reduceAdd, Int.natCast_one]) (fun rec' a k t => by simp only [L_w_heldTurnS_1, ilt_end, cond_f]) a [] fuel k 0 (fun x hx => Nat.le_trans (szL_mem hx) h) h0 hk (by simp only [List.nil_append, mkL_length]; omega) (by unfold fuel; omega)
  simp only [List.nil_append, List.length_nil] at this
  rw [show ((0 : Nat) : Int) = 0 from rfl] at this
  rw [this]
  rfl
theorem c_w_szFloat32S (a : (List Nat)) (left : Int) (hok : Ty.ok (.slice (.flt .f32)) a) (h1 : -1 ≤ left) (h2 : left < 4611686018427387904) : t_w_szFloat32S a left = (if (szL z_F32 a : Int) ≤ left then left - szL z_F32 a else -1) := by
  have hl : a.length ≤ 9223372036854775807 := hok.1
  unfold t_w_szFloat32S
  rw [show szL z_F32 a = a.length from szL_zero a]
  rw [isub_ok (by omega) (by omega)]
  by_cases hc : (a.length : Int) ≤ left
  · rw [if_pos hc, ilt_f (by omega)]; rfl
  · rw [if_neg hc, ilt_t (by omega)]; rfl
theorem c_w_eqPoseS (a : (List dPose)) (h : szL z_Pose a ≤ 1073741824) : g_w_eqPoseS a a = some true := by
  have hl := szL_len (s := z_Pose) a
  unfold g_w_eqPoseS
  rw [ieq_self, bnot_t, cond_f]
  have := eq_loop (step := L_w_eqPoseS_1) (p := fun x => z_Pose x ≤ 1073741824) (fun rec' pre x suf t hp hb => by
    have hb2 := hb; rw [List.length_append, List.length_cons] at hb2; have hp2 := hp; try unfold z_Pose at hp2
    simp (disch := first | omega | assumption) only [L_w_eqPoseS_1, ilt_mid, ix_mid, getD_mid, iadd_ok, opt_bind_some, cond_t, cond_f, bnot_t, bnot_f, cond_same, ieq_self, beqB_self, c_w_eqPose]) (fun rec' a t => by simp only [L_w_eqPoseS_1, ilt_end, cond_f]) a [] fuel false (fun x hx => Nat.le_trans (szL_mem hx) h) (by simp only [List.nil_append]; omega) (by unfold fuel; omega)
  simp only [List.nil_append, List.length_nil] at this
  rw [show ((0 : Nat) : Int) = 0 from rfl] at this
  rw [this]
  rfl
end Go.Fw
