/- What the laws' own functions compute. No condition. -/
import Derived.Test.YtijmellgdjcofaaFwD
import Derived.Test.YtijmellgdjcofaaAPure
set_option linter.unusedVariables false
set_option linter.unusedSimpArgs false
namespace Go.Fw
def c_F32 (_ : Nat) : Nat := 1
def m_F32 (_ : Nat) (k : Int) : Nat := fofInt .f32 k
def z_F32 (_ : Nat) : Nat := 0
theorem b1_F32 (x : Nat) : c_F32 x ≤ 16 * (1 + z_F32 x) := by unfold c_F32 z_F32; omega
theorem c_w_toFloat32S (a : (List Nat)) (h : szL z_F32 a ≤ 1073741824) : g_w_toFloat32S a = some (a) := by
  have hl := szL_len (s := z_F32) a
  unfold g_w_toFloat32S
  rw [mkOk_t (by omega) (by omega) (by omega), cond_t]
  have := to_loop (step := L_w_toFloat32S_1) (z := (0 : Nat)) (p := fun x => z_F32 x ≤ 1073741824) (fun rec' pre x suf r hp hb => by
    have hb2 := hb; rw [List.length_append, List.length_cons] at hb2; have hp2 := hp; try unfold z_F32 at hp2
    simp (disch := first | omega | assumption) only [L_w_toFloat32S_1, ilt_mid, ix_mid, getD_mid, set_mid, iadd_ok, opt_bind_some, cond_t, cond_f, bnot_t, bnot_f, cond_same, ieq_self, beqB_self]) (fun rec' a => by simp only [L_w_toFloat32S_1, ilt_end, cond_f]) a [] fuel (fun x hx => Nat.le_trans (szL_mem hx) h) (by simp only [List.nil_append]; omega) (by unfold fuel; omega)
  simp only [List.nil_append, List.length_nil] at this
  rw [show ((0 : Nat) : Int) = 0 from rfl] at this
  first | rw [this] | (simp only [z_consts] at this ⊢; rw [this])
  rfl
theorem c_w_sameFloat (a : Nat) : t_w_sameFloat a a = true := by
  unfold t_w_sameFloat; cases feq .f64 a a <;> cases feq .f64 a 0 <;> simp [beqB_self]
theorem c_w_eqFloat32S (a : (List Nat)) (h : szL z_F32 a ≤ 1073741824) : g_w_eqFloat32S a a = some true := by
  have hl := szL_len (s := z_F32) a
  unfold g_w_eqFloat32S
  rw [ieq_self, bnot_t, cond_f]
  have := eq_loop (step := L_w_eqFloat32S_1) (p := fun x => z_F32 x ≤ 1073741824) (fun rec' pre x suf t hp hb => by
    have hb2 := hb; rw [List.length_append, List.length_cons] at hb2; have hp2 := hp; try unfold z_F32 at hp2
    simp (disch := first | omega | assumption) only [L_w_eqFloat32S_1, ilt_mid, ix_mid, getD_mid, iadd_ok, opt_bind_some, cond_t, cond_f, bnot_t, bnot_f, cond_same, ieq_self, beqB_self, c_w_sameFloat]) (fun rec' a t => by simp only [L_w_eqFloat32S_1, ilt_end, cond_f]) a [] fuel false (fun x hx => Nat.le_trans (szL_mem hx) h) (by simp only [List.nil_append]; omega) (by unfold fuel; omega)
  simp only [List.nil_append, List.length_nil] at this
  rw [show ((0 : Nat) : Int) = 0 from rfl] at this
  rw [this]
  rfl
def c_Vec (x : dVec) : Nat := 3
def m_Vec (x : dVec) (k : Int) : dVec := (fofInt .f32 (k), (fofInt .f32 (k + 1), (fofInt .f32 (k + 1 + 1), ())))
def z_Vec (x : dVec) : Nat := 0
theorem b1_Vec (x : dVec) : c_Vec x ≤ 16 * (1 + z_Vec x) := by  unfold c_Vec z_Vec; omega
theorem c_w_toVector (a : dVec) : t_w_toVector a = a := rfl
theorem c_w_eqVector (a : dVec) : t_w_eqVector a a = true := by
  unfold t_w_eqVector; simp only [opt_bind_some, cond_t, cond_f, bnot_t, bnot_f, cond_same, ieq_self, beqB_self, c_w_sameFloat]
theorem c_w_eqVectorS (a : (List dVec)) (h : szL z_Vec a ≤ 1073741824) : g_w_eqVectorS a a = some true := by
  have hl := szL_len (s := z_Vec) a
  unfold g_w_eqVectorS
  rw [ieq_self, bnot_t, cond_f]
  have := eq_loop (step := L_w_eqVectorS_1) (p := fun x => z_Vec x ≤ 1073741824) (fun rec' pre x suf t hp hb => by
    have hb2 := hb; rw [List.length_append, List.length_cons] at hb2; have hp2 := hp; try unfold z_Vec at hp2
    simp (disch := first | omega | assumption) only [L_w_eqVectorS_1, ilt_mid, ix_mid, getD_mid, iadd_ok, opt_bind_some, cond_t, cond_f, bnot_t, bnot_f, cond_same, ieq_self, beqB_self, c_w_eqVector]) (fun rec' a t => by simp only [L_w_eqVectorS_1, ilt_end, cond_f]) a [] fuel false (fun x hx => Nat.le_trans (szL_mem hx) h) (by simp only [List.nil_append]; omega) (by unfold fuel; omega)
  simp only [List.nil_append, List.length_nil] at this
  rw [show ((0 : Nat) : Int) = 0 from rfl] at this
  rw [this]
  rfl
def c_I64 (_ : Int) : Nat := 1
def m_I64 (_ : Int) (k : Int) : Int := k
def z_I64 (_ : Int) : Nat := 0
theorem b1_I64 (x : Int) : c_I64 x ≤ 16 * (1 + z_I64 x) := by unfold c_I64 z_I64; omega
theorem c_w_eqInt64S (a : (List Int)) (h : szL z_I64 a ≤ 1073741824) : g_w_eqInt64S a a = some true := by
  have hl := szL_len (s := z_I64) a
  unfold g_w_eqInt64S
  rw [ieq_self, bnot_t, cond_f]
  have := eq_loop (step := L_w_eqInt64S_1) (p := fun x => z_I64 x ≤ 1073741824) (fun rec' pre x suf t hp hb => by
    have hb2 := hb; rw [List.length_append, List.length_cons] at hb2; have hp2 := hp; try unfold z_I64 at hp2
    simp (disch := first | omega | assumption) only [L_w_eqInt64S_1, ilt_mid, ix_mid, getD_mid, iadd_ok, opt_bind_some, cond_t, cond_f, bnot_t, bnot_f, cond_same, ieq_self, beqB_self]) (fun rec' a t => by simp only [L_w_eqInt64S_1, ilt_end, cond_f]) a [] fuel false (fun x hx => Nat.le_trans (szL_mem hx) h) (by simp only [List.nil_append]; omega) (by unfold fuel; omega)
  simp only [List.nil_append, List.length_nil] at this
  rw [show ((0 : Nat) : Int) = 0 from rfl] at this
  rw [this]
  rfl
theorem c_w_markInt64S (a : (List Int)) (k : Int) (h : szL z_I64 a ≤ 1073741824) (h0 : 0 ≤ k) (hk : k + sumL c_I64 a < 4611686018427387904) : g_w_markInt64S a k = some (k + sumL c_I64 a, (mkL m_I64 c_I64 a k, (k, ()))) := by
  have hl := szL_len (s := z_I64) a
  unfold g_w_markInt64S
  have := mark_loop (step := L_w_markInt64S_1) (m := m_I64) (c := c_I64) (p := fun x => z_I64 x ≤ 1073741824) (fun rec' pre x suf k hp h0 hk hb => by
    have hb2 := hb; rw [List.length_append, List.length_cons] at hb2; have hk2 := hk; simp only [c_I64] at hk2
    simp (disch := omega) only [L_w_markInt64S_1, ilt_mid, ix_mid, getD_mid, set_mid, iadd_ok, opt_bind_some, cond_t, cond_f, bnot_t, bnot_f, cond_same, ieq_self, beqB_self]
    simp only [c_I64, m_I64, z_I64, Int.natCast_add, Int.cast_ofNat_Int, Int.add_assoc, Int.reduceAdd, Int.natCast_one]) (fun rec' a k => by simp only [L_w_markInt64S_1, ilt_end, cond_f]) a [] fuel k (fun x hx => Nat.le_trans (szL_mem hx) h) h0 hk (by simp only [List.nil_append]; omega) (by unfold fuel; omega)
  simp only [List.nil_append, List.length_nil] at this
  rw [show ((0 : Nat) : Int) = 0 from rfl] at this
  rw [this]
  rfl
theorem c_w_markFloat32S (a : (List Nat)) (k : Int) (h : szL z_F32 a ≤ 1073741824) (h0 : 0 ≤ k) (hk : k + sumL c_F32 a < 4611686018427387904) : g_w_markFloat32S a k = some (k + sumL c_F32 a, (mkL m_F32 c_F32 a k, (k, ()))) := by
  have hl := szL_len (s := z_F32) a
  unfold g_w_markFloat32S
  have := mark_loop (step := L_w_markFloat32S_1) (m := m_F32) (c := c_F32) (p := fun x => z_F32 x ≤ 1073741824) (fun rec' pre x suf k hp h0 hk hb => by
    have hb2 := hb; rw [List.length_append, List.length_cons] at hb2; have hk2 := hk; simp only [c_F32] at hk2
    simp (disch := omega) only [L_w_markFloat32S_1, ilt_mid, ix_mid, getD_mid, set_mid, iadd_ok, opt_bind_some, cond_t, cond_f, bnot_t, bnot_f, cond_same, ieq_self, beqB_self]
    simp only [c_F32, m_F32, z_F32, Int.natCast_add, Int.cast_ofNat_Int, Int.add_assoc, Int.reduceAdd, Int.natCast_one]) (fun rec' a k => by simp only [L_w_markFloat32S_1, ilt_end, cond_f]) a [] fuel k (fun x hx => Nat.le_trans (szL_mem hx) h) h0 hk (by simp only [List.nil_append]; omega) (by unfold fuel; omega)
  simp only [List.nil_append, List.length_nil] at this
  rw [show ((0 : Nat) : Int) = 0 from rfl] at this
  rw [this]
  rfl
def c_Turn (x : dTurn) : Nat := 4
def m_Turn (x : dTurn) (k : Int) : dTurn := (fofInt .f32 (k), (fofInt .f32 (k + 1), (fofInt .f32 (k + 1 + 1), (fofInt .f32 (k + 1 + 1 + 1), ()))))
def z_Turn (x : dTurn) : Nat := 0
theorem b1_Turn (x : dTurn) : c_Turn x ≤ 16 * (1 + z_Turn x) := by  unfold c_Turn z_Turn; omega
theorem c_w_eqTurn (a : dTurn) : t_w_eqTurn a a = true := by
  unfold t_w_eqTurn; simp only [opt_bind_some, cond_t, cond_f, bnot_t, bnot_f, cond_same, ieq_self, beqB_self, c_w_sameFloat]
theorem c_w_eqTurnS (a : (List dTurn)) (h : szL z_Turn a ≤ 1073741824) : g_w_eqTurnS a a = some true := by
  have hl := szL_len (s := z_Turn) a
  unfold g_w_eqTurnS
  rw [ieq_self, bnot_t, cond_f]
  have := eq_loop (step := L_w_eqTurnS_1) (p := fun x => z_Turn x ≤ 1073741824) (fun rec' pre x suf t hp hb => by
    have hb2 := hb; rw [List.length_append, List.length_cons] at hb2; have hp2 := hp; try unfold z_Turn at hp2
    simp (disch := first | omega | assumption) only [L_w_eqTurnS_1, ilt_mid, ix_mid, getD_mid, iadd_ok, opt_bind_some, cond_t, cond_f, bnot_t, bnot_f, cond_same, ieq_self, beqB_self, c_w_eqTurn]) (fun rec' a t => by simp only [L_w_eqTurnS_1, ilt_end, cond_f]) a [] fuel false (fun x hx => Nat.le_trans (szL_mem hx) h) (by simp only [List.nil_append]; omega) (by unfold fuel; omega)
  simp only [List.nil_append, List.length_nil] at this
  rw [show ((0 : Nat) : Int) = 0 from rfl] at this
  rw [this]
  rfl
def z_Pose (x : dPose) : Nat := szL z_Turn x.2.1
def cv_Pose (x : dPose) : Nat := sumL c_Turn x.2.1
def mv_Pose (x : dPose) (k : Int) : dPose := ((x.1.1, (x.1.2.1, (x.1.2.2.1, ()))), (mkL m_Turn c_Turn x.2.1 (k), ()))
theorem bv_Pose (x : dPose) : cv_Pose x ≤ 16 * z_Pose x := by have := sumL_le b1_Turn x.2.1; unfold cv_Pose z_Pose; omega
theorem c_w_eqPose (a : dPose) (h : z_Pose a ≤ 1073741824) : g_w_eqPose a a = some true := by
  unfold z_Pose at h; unfold g_w_eqPose; simp (disch := omega) only [opt_bind_some, cond_t, cond_f, bnot_t, bnot_f, cond_same, ieq_self, beqB_self, c_w_eqVector, c_w_eqTurnS]
theorem c_w_markTurnS (a : (List dTurn)) (k : Int) (h : szL z_Turn a ≤ 1073741824) (h0 : 0 ≤ k) (hk : k + sumL c_Turn a < 4611686018427387904) : g_w_markTurnS a k = some (k + sumL c_Turn a, (mkL m_Turn c_Turn a k, (k, ()))) := by
  have hl := szL_len (s := z_Turn) a
  unfold g_w_markTurnS
  have := mark_loop (step := L_w_markTurnS_1) (m := m_Turn) (c := c_Turn) (p := fun x => z_Turn x ≤ 1073741824) (fun rec' pre x suf k hp h0 hk hb => by
    have hb2 := hb; rw [List.length_append, List.length_cons] at hb2; have hk2 := hk; have hp2 := hp; simp only [c_Turn, z_Turn, Int.natCast_add] at hk2 hp2
    simp (disch := omega) only [L_w_markTurnS_1, ilt_mid, ix_mid, getD_mid, set_mid, iadd_ok, opt_bind_some, cond_t, cond_f, bnot_t, bnot_f, cond_same, ieq_self, beqB_self]
    simp only [c_Turn, m_Turn, z_Turn, Int.natCast_add, Int.cast_ofNat_Int, Int.add_assoc, Int.reduceAdd, Int.natCast_one]) (fun rec' a k => by simp only [L_w_markTurnS_1, ilt_end, cond_f]) a [] fuel k (fun x hx => Nat.le_trans (szL_mem hx) h) h0 hk (by simp only [List.nil_append]; omega) (by unfold fuel; omega)
  simp only [List.nil_append, List.length_nil] at this
  rw [show ((0 : Nat) : Int) = 0 from rfl] at this
  rw [this]
  rfl
theorem c_w_markPose (a : dPose) (k : Int) (h : z_Pose a ≤ 1073741824) (h0 : 0 ≤ k) (hk : k + cv_Pose a < 4611686018427387904) : g_w_markPose a k = some (k + cv_Pose a, (mv_Pose a k, (k, ()))) := by
  unfold z_Pose at h; unfold cv_Pose at hk; unfold g_w_markPose
  try simp only [Int.natCast_add] at hk
  simp (disch := omega) only [opt_bind_some, c_w_markTurnS, cv_Pose, mv_Pose, Int.natCast_add, Int.add_assoc]
theorem c_w_szFloat32S (a : (List Nat)) (left : Int) (hok : Ty.ok (.slice (.flt .f32)) a) (h1 : -1 ≤ left) (h2 : left < 4611686018427387904) : t_w_szFloat32S a left = (if (szL z_F32 a : Int) ≤ left then left - szL z_F32 a else -1) := by
  have hl : a.length ≤ 9223372036854775807 := hok.1
  unfold t_w_szFloat32S
  rw [show szL z_F32 a = a.length from szL_zero a]
  rw [isub_ok (by omega) (by omega)]
  by_cases hc : (a.length : Int) ≤ left
  · rw [if_pos hc, ilt_f (by omega)]; rfl
  · rw [if_neg hc, ilt_t (by omega)]; rfl
theorem c_w_szTurnS (a : (List dTurn)) (left : Int) (hok : Ty.ok (.slice tTurn) a) (h1 : -1 ≤ left) (h2 : left < 4611686018427387904) : t_w_szTurnS a left = (if (szL z_Turn a : Int) ≤ left then left - szL z_Turn a else -1) := by
  have hl : a.length ≤ 9223372036854775807 := hok.1
  unfold t_w_szTurnS
  rw [show szL z_Turn a = a.length from szL_zero a]
  rw [isub_ok (by omega) (by omega)]
  by_cases hc : (a.length : Int) ≤ left
  · rw [if_pos hc, ilt_f (by omega)]; rfl
  · rw [if_neg hc, ilt_t (by omega)]; rfl
theorem c_w_szPose (a : dPose) (left : Int) (hok : Ty.ok tPose a) (h1 : -1 ≤ left) (h2 : left < 4611686018427387904) : t_w_szPose a left = (if (z_Pose a : Int) ≤ left then left - z_Pose a else -1) := by
  unfold z_Pose
  obtain ⟨o0, o1, _⟩ := hok
  unfold t_w_szPose
  try dsimp only
  have e0 : -1 ≤ left := h1
  have f0 := fun (l : Int) h1 h2 => c_w_szTurnS a.2.1 l o1 h1 h2
  have r0 := f0 (left) (by omega) (by omega)
  by_cases c0 : ((szL z_Turn a.2.1 : Nat) : Int) ≤ left
  · rw [if_pos c0] at r0
    simp (disch := omega) only [r0, opt_bind_some, ilt_f, cond_f]
    all_goals first | rw [if_pos (by omega)] | skip
    all_goals first | (simp only [opt_bind_some, cond_f, cond_t]; done) | (congr 1; omega) | (simp only [opt_bind_some, cond_f]; congr 1; omega) | omega
  · rw [if_neg c0] at r0
    rw [if_neg (by omega)]
    simp only [r0, opt_bind_some, show ilt (-1) 0 = true from rfl, cond_t]
theorem c_w_toTurn (a : dTurn) : t_w_toTurn a = a := rfl
theorem c_w_toTurnS (a : (List dTurn)) (h : szL z_Turn a ≤ 1073741824) : g_w_toTurnS a = some (a) := by
  have hl := szL_len (s := z_Turn) a
  unfold g_w_toTurnS
  rw [mkOk_t (by omega) (by omega) (by omega), cond_t]
  have := to_loop (step := L_w_toTurnS_1) (z := zTurn) (p := fun x => z_Turn x ≤ 1073741824) (fun rec' pre x suf r hp hb => by
    have hb2 := hb; rw [List.length_append, List.length_cons] at hb2; have hp2 := hp; try unfold z_Turn at hp2
    simp (disch := first | omega | assumption) only [L_w_toTurnS_1, ilt_mid, ix_mid, getD_mid, set_mid, iadd_ok, opt_bind_some, cond_t, cond_f, bnot_t, bnot_f, cond_same, ieq_self, beqB_self, c_w_toTurn]) (fun rec' a => by simp only [L_w_toTurnS_1, ilt_end, cond_f]) a [] fuel (fun x hx => Nat.le_trans (szL_mem hx) h) (by simp only [List.nil_append]; omega) (by unfold fuel; omega)
  simp only [List.nil_append, List.length_nil] at this
  rw [show ((0 : Nat) : Int) = 0 from rfl] at this
  first | rw [this] | (simp only [z_consts] at this ⊢; rw [this])
  rfl
theorem c_w_toPose (a : dPose) (h : z_Pose a ≤ 1073741824) : g_w_toPose a = some (a) := by
  unfold z_Pose at h; unfold g_w_toPose; simp (disch := omega) only [opt_bind_some, cond_t, cond_f, bnot_t, bnot_f, cond_same, ieq_self, beqB_self, c_w_toVector, c_w_toTurnS]
theorem c_w_szInt64S (a : (List Int)) (left : Int) (hok : Ty.ok (.slice (.int .i64)) a) (h1 : -1 ≤ left) (h2 : left < 4611686018427387904) : t_w_szInt64S a left = (if (szL z_I64 a : Int) ≤ left then left - szL z_I64 a else -1) := by
  have hl : a.length ≤ 9223372036854775807 := hok.1
  unfold t_w_szInt64S
  rw [show szL z_I64 a = a.length from szL_zero a]
  rw [isub_ok (by omega) (by omega)]
  by_cases hc : (a.length : Int) ≤ left
  · rw [if_pos hc, ilt_f (by omega)]; rfl
  · rw [if_neg hc, ilt_t (by omega)]; rfl
theorem c_w_toInt64S (a : (List Int)) (h : szL z_I64 a ≤ 1073741824) : g_w_toInt64S a = some (a) := by
  have hl := szL_len (s := z_I64) a
  unfold g_w_toInt64S
  rw [mkOk_t (by omega) (by omega) (by omega), cond_t]
  have := to_loop (step := L_w_toInt64S_1) (z := (0 : Int)) (p := fun x => z_I64 x ≤ 1073741824) (fun rec' pre x suf r hp hb => by
    have hb2 := hb; rw [List.length_append, List.length_cons] at hb2; have hp2 := hp; try unfold z_I64 at hp2
    simp (disch := first | omega | assumption) only [L_w_toInt64S_1, ilt_mid, ix_mid, getD_mid, set_mid, iadd_ok, opt_bind_some, cond_t, cond_f, bnot_t, bnot_f, cond_same, ieq_self, beqB_self]) (fun rec' a => by simp only [L_w_toInt64S_1, ilt_end, cond_f]) a [] fuel (fun x hx => Nat.le_trans (szL_mem hx) h) (by simp only [List.nil_append]; omega) (by unfold fuel; omega)
  simp only [List.nil_append, List.length_nil] at this
  rw [show ((0 : Nat) : Int) = 0 from rfl] at this
  first | rw [this] | (simp only [z_consts] at this ⊢; rw [this])
  rfl
theorem c_w_markVectorS (a : (List dVec)) (k : Int) (h : szL z_Vec a ≤ 1073741824) (h0 : 0 ≤ k) (hk : k + sumL c_Vec a < 4611686018427387904) : g_w_markVectorS a k = some (k + sumL c_Vec a, (mkL m_Vec c_Vec a k, (k, ()))) := by
  have hl := szL_len (s := z_Vec) a
  unfold g_w_markVectorS
  have := mark_loop (step := L_w_markVectorS_1) (m := m_Vec) (c := c_Vec) (p := fun x => z_Vec x ≤ 1073741824) (fun rec' pre x suf k hp h0 hk hb => by
    have hb2 := hb; rw [List.length_append, List.length_cons] at hb2; have hk2 := hk; have hp2 := hp; simp only [c_Vec, z_Vec, Int.natCast_add] at hk2 hp2
    simp (disch := omega) only [L_w_markVectorS_1, ilt_mid, ix_mid, getD_mid, set_mid, iadd_ok, opt_bind_some, cond_t, cond_f, bnot_t, bnot_f, cond_same, ieq_self, beqB_self]
    simp only [c_Vec, m_Vec, z_Vec, Int.natCast_add, Int.cast_ofNat_Int, Int.add_assoc, Int.reduceAdd, Int.natCast_one]) (fun rec' a k => by simp only [L_w_markVectorS_1, ilt_end, cond_f]) a [] fuel k (fun x hx => Nat.le_trans (szL_mem hx) h) h0 hk (by simp only [List.nil_append]; omega) (by unfold fuel; omega)
  simp only [List.nil_append, List.length_nil] at this
  rw [show ((0 : Nat) : Int) = 0 from rfl] at this
  rw [this]
  rfl
theorem c_w_heldVectorS (a : (List dVec)) (k : Int) (h : szL z_Vec a ≤ 1073741824) (h0 : 0 ≤ k) (hk : k + sumL c_Vec a < 4611686018427387904) : g_w_heldVectorS (mkL m_Vec c_Vec a k) k = some (k + sumL c_Vec a) := by
  have hl := szL_len (s := z_Vec) a
  unfold g_w_heldVectorS
  have := held_loop (step := L_w_heldVectorS_1) (m := m_Vec) (c := c_Vec) (p := fun x => z_Vec x ≤ 1073741824) (fun rec' pre x suf k t hp h0 hk hb => by
    have hb2 := hb; rw [List.length_append, List.length_cons] at hb2; have hk2 := hk; have hp2 := hp; simp only [c_Vec, z_Vec, Int.natCast_add] at hk2 hp2
    simp (disch := omega) only [L_w_heldVectorS_1, ilt_mid, ix_mid, getD_mid, iadd_ok, ilt_f, feq_fofInt, opt_bind_some, cond_t, cond_f, bnot_t, bnot_f, cond_same, ieq_self, beqB_self]
    simp (disch := omega) only [c_Vec, m_Vec, z_Vec, opt_bind_some, ilt_f, feq_fofInt, opt_bind_some, cond_t, cond_f, bnot_t, bnot_f, cond_same, ieq_self, beqB_self, Int.natCast_add, Int.cast_ofNat_Int, Int.add_assoc, Int.reduceAdd, Int.natCast_one]) (fun rec' a k t => by simp only [L_w_heldVectorS_1, ilt_end, cond_f]) a [] fuel k 0 (fun x hx => Nat.le_trans (szL_mem hx) h) h0 hk (by simp only [List.nil_append, mkL_length]; omega) (by unfold fuel; omega)
  simp only [List.nil_append, List.length_nil] at this
  rw [show ((0 : Nat) : Int) = 0 from rfl] at this
  rw [this]
  rfl
end Go.Fw
