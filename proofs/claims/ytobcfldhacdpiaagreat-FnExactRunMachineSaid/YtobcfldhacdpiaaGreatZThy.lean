/- What the laws' own functions compute. No condition. -/
import Derived.Test.YtobcfldhacdpiaaGreatCThy
import Derived.Test.YtobcfldhacdpiaaGreatZPure
set_option linter.unusedVariables false
set_option linter.unusedSimpArgs false
namespace Go.Fw
theorem c_w_markKeyS (a : (List dKey)) (k : Int) (h : szL z_Key a ≤ 1073741824) (h0 : 0 ≤ k) (hk : k + sumL c_Key a < 4611686018427387904) : g_w_markKeyS a k = some (k + sumL c_Key a, (mkL m_Key c_Key a k, (k, ()))) := by
  have hl := szL_len (s := z_Key) a
  unfold g_w_markKeyS
  have := mark_loop (step := L_w_markKeyS_1) (m := m_Key) (c := c_Key) (p := fun x => z_Key x ≤ 1073741824) (fun rec' pre x suf k hp h0 hk hb => by
    have hb2 := hb; rw [List.length_append, List.length_cons] at hb2; have hk2 := hk; have hp2 := hp; simp only [c_Key, z_Key, Int.natCast_add] at hk2 hp2
    simp (disch := omega) only [L_w_markKeyS_1, ilt_mid, ix_mid, getD_mid, set_mid, iadd_ok, opt_bind_some, cond_t, cond_f, bnot_t, bnot_f, cond_same, ieq_self, beqB_self]
    simp only [c_Key, m_Key, z_Key, Int.natCast_add, Int.cast_ofNat_Int, Int.add_assoc, Int.reduceAdd, Int.natCast_one]) (fun rec' a k => by simp only [L_w_markKeyS_1, ilt_end, cond_f]) a [] fuel k (fun x hx => Nat.le_trans (szL_mem hx) h) h0 hk (by simp only [List.nil_append]; omega) (by unfold fuel; omega)
  simp only [List.nil_append, List.length_nil] at this
  rw [show ((0 : Nat) : Int) = 0 from rfl] at this
  rw [this]
  rfl
theorem c_w_markKeySS (a : (List (List dKey))) (k : Int) (h : szL z_KeyS a ≤ 1073741824) (h0 : 0 ≤ k) (hk : k + sumL c_KeyS a < 4611686018427387904) : g_w_markKeySS a k = some (k + sumL c_KeyS a, (mkL m_KeyS c_KeyS a k, (k, ()))) := by
  have hl := szL_len (s := z_KeyS) a
  unfold g_w_markKeySS
  have := mark_loop (step := L_w_markKeySS_1) (m := m_KeyS) (c := c_KeyS) (p := fun x => z_KeyS x ≤ 1073741824) (fun rec' pre x suf k hp h0 hk hb => by
    have hb2 := hb; rw [List.length_append, List.length_cons] at hb2; have hk2 := hk; have hp2 := hp; simp only [c_KeyS, z_KeyS, Int.natCast_add] at hk2 hp2
    simp (disch := omega) only [L_w_markKeySS_1, ilt_mid, ix_mid, getD_mid, set_mid, iadd_ok, opt_bind_some, cond_t, cond_f, bnot_t, bnot_f, cond_same, ieq_self, beqB_self, c_w_markKeyS]
    simp only [c_KeyS, m_KeyS, z_KeyS, Int.natCast_add, Int.cast_ofNat_Int, Int.add_assoc, Int.reduceAdd, Int.natCast_one]) (fun rec' a k => by simp only [L_w_markKeySS_1, ilt_end, cond_f]) a [] fuel k (fun x hx => Nat.le_trans (szL_mem hx) h) h0 hk (by simp only [List.nil_append]; omega) (by unfold fuel; omega)
  simp only [List.nil_append, List.length_nil] at this
  rw [show ((0 : Nat) : Int) = 0 from rfl] at this
  rw [this]
  rfl
theorem c_w_markRootKeyS (a : (List dRootKey)) (k : Int) (h : szL z_RootKey a ≤ 1073741824) (h0 : 0 ≤ k) (hk : k + sumL c_RootKey a < 4611686018427387904) : g_w_markRootKeyS a k = some (k + sumL c_RootKey a, (mkL m_RootKey c_RootKey a k, (k, ()))) := by
  have hl := szL_len (s := z_RootKey) a
  unfold g_w_markRootKeyS
  have := mark_loop (step := L_w_markRootKeyS_1) (m := m_RootKey) (c := c_RootKey) (p := fun x => z_RootKey x ≤ 1073741824) (fun rec' pre x suf k hp h0 hk hb => by
    have hb2 := hb; rw [List.length_append, List.length_cons] at hb2; have hk2 := hk; have hp2 := hp; simp only [c_RootKey, z_RootKey, Int.natCast_add] at hk2 hp2
    simp (disch := omega) only [L_w_markRootKeyS_1, ilt_mid, ix_mid, getD_mid, set_mid, iadd_ok, opt_bind_some, cond_t, cond_f, bnot_t, bnot_f, cond_same, ieq_self, beqB_self]
    simp only [c_RootKey, m_RootKey, z_RootKey, Int.natCast_add, Int.cast_ofNat_Int, Int.add_assoc, Int.reduceAdd, Int.natCast_one]) (fun rec' a k => by simp only [L_w_markRootKeyS_1, ilt_end, cond_f]) a [] fuel k (fun x hx => Nat.le_trans (szL_mem hx) h) h0 hk (by simp only [List.nil_append]; omega) (by unfold fuel; omega)
  simp only [List.nil_append, List.length_nil] at this
  rw [show ((0 : Nat) : Int) = 0 from rfl] at this
  rw [this]
  rfl
theorem c_w_markClipS (a : (List dClip)) (k : Int) (h : szL z_Clip a ≤ 1073741824) (h0 : 0 ≤ k) (hk : k + sumL c_Clip a < 4611686018427387904) : g_w_markClipS a k = some (k + sumL c_Clip a, (mkL m_Clip c_Clip a k, (k, ()))) := by
  have hl := szL_len (s := z_Clip) a
  unfold g_w_markClipS
  have := mark_loop (step := L_w_markClipS_1) (m := m_Clip) (c := c_Clip) (p := fun x => z_Clip x ≤ 1073741824) (fun rec' pre x suf k hp h0 hk hb => by
    have hb2 := hb; rw [List.length_append, List.length_cons] at hb2; have hk2 := hk; have hp2 := hp; simp only [c_Clip, z_Clip, Int.natCast_add] at hk2 hp2
    simp (disch := omega) only [L_w_markClipS_1, ilt_mid, ix_mid, getD_mid, set_mid, iadd_ok, opt_bind_some, cond_t, cond_f, bnot_t, bnot_f, cond_same, ieq_self, beqB_self, c_w_markKeySS, c_w_markRootKeyS]
    simp only [c_Clip, m_Clip, z_Clip, Int.natCast_add, Int.cast_ofNat_Int, Int.add_assoc, Int.reduceAdd, Int.natCast_one]) (fun rec' a k => by simp only [L_w_markClipS_1, ilt_end, cond_f]) a [] fuel k (fun x hx => Nat.le_trans (szL_mem hx) h) h0 hk (by simp only [List.nil_append]; omega) (by unfold fuel; omega)
  simp only [List.nil_append, List.length_nil] at this
  rw [show ((0 : Nat) : Int) = 0 from rfl] at this
  rw [this]
  rfl
theorem c_w_markStateS (a : (List dState)) (k : Int) (h : szL z_State a ≤ 1073741824) (h0 : 0 ≤ k) (hk : k + sumL c_State a < 4611686018427387904) : g_w_markStateS a k = some (k + sumL c_State a, (mkL m_State c_State a k, (k, ()))) := by
  have hl := szL_len (s := z_State) a
  unfold g_w_markStateS
  have := mark_loop (step := L_w_markStateS_1) (m := m_State) (c := c_State) (p := fun x => z_State x ≤ 1073741824) (fun rec' pre x suf k hp h0 hk hb => by
    have hb2 := hb; rw [List.length_append, List.length_cons] at hb2; have hk2 := hk; have hp2 := hp; simp only [c_State, z_State, Int.natCast_add] at hk2 hp2
    simp (disch := omega) only [L_w_markStateS_1, ilt_mid, ix_mid, getD_mid, set_mid, iadd_ok, opt_bind_some, cond_t, cond_f, bnot_t, bnot_f, cond_same, ieq_self, beqB_self]
    simp only [c_State, m_State, z_State, Int.natCast_add, Int.cast_ofNat_Int, Int.add_assoc, Int.reduceAdd, Int.natCast_one]) (fun rec' a k => by simp only [L_w_markStateS_1, ilt_end, cond_f]) a [] fuel k (fun x hx => Nat.le_trans (szL_mem hx) h) h0 hk (by simp only [List.nil_append]; omega) (by unfold fuel; omega)
  simp only [List.nil_append, List.length_nil] at this
  rw [show ((0 : Nat) : Int) = 0 from rfl] at this
  rw [this]
  rfl
theorem c_w_markRuleS (a : (List dRule)) (k : Int) (h : szL z_Rule a ≤ 1073741824) (h0 : 0 ≤ k) (hk : k + sumL c_Rule a < 4611686018427387904) : g_w_markRuleS a k = some (k + sumL c_Rule a, (mkL m_Rule c_Rule a k, (k, ()))) := by
  have hl := szL_len (s := z_Rule) a
  unfold g_w_markRuleS
  have := mark_loop (step := L_w_markRuleS_1) (m := m_Rule) (c := c_Rule) (p := fun x => z_Rule x ≤ 1073741824) (fun rec' pre x suf k hp h0 hk hb => by
    have hb2 := hb; rw [List.length_append, List.length_cons] at hb2; have hk2 := hk; have hp2 := hp; simp only [c_Rule, z_Rule, Int.natCast_add] at hk2 hp2
    simp (disch := omega) only [L_w_markRuleS_1, ilt_mid, ix_mid, getD_mid, set_mid, iadd_ok, opt_bind_some, cond_t, cond_f, bnot_t, bnot_f, cond_same, ieq_self, beqB_self]
    simp only [c_Rule, m_Rule, z_Rule, Int.natCast_add, Int.cast_ofNat_Int, Int.add_assoc, Int.reduceAdd, Int.natCast_one]) (fun rec' a k => by simp only [L_w_markRuleS_1, ilt_end, cond_f]) a [] fuel k (fun x hx => Nat.le_trans (szL_mem hx) h) h0 hk (by simp only [List.nil_append]; omega) (by unfold fuel; omega)
  simp only [List.nil_append, List.length_nil] at this
  rw [show ((0 : Nat) : Int) = 0 from rfl] at this
  rw [this]
  rfl
theorem c_w_markMachine (a : dMachine) (k : Int) (h : z_Machine a ≤ 1073741824) (h0 : 0 ≤ k) (hk : k + cv_Machine a < 4611686018427387904) : g_w_markMachine a k = some (k + cv_Machine a, (mv_Machine a k, (k, ()))) := by
  unfold z_Machine at h; unfold cv_Machine at hk; unfold g_w_markMachine
  try simp only [Int.natCast_add] at hk
  simp (disch := omega) only [opt_bind_some, c_w_markClipS, c_w_markStateS, c_w_markRuleS, cv_Machine, mv_Machine, Int.natCast_add, Int.add_assoc]
theorem c_w_szFloat32SS (a : (List (List Nat))) (left : Int) (hok : Ty.ok (.slice (.slice (.flt .f32))) a) (h1 : -1 ≤ left) (h2 : left < 4611686018427387904) : g_w_szFloat32SS a left = some ((if (szL z_F32S a : Int) ≤ left then left - szL z_F32S a else -1)) := by
  have hl : a.length ≤ 9223372036854775807 := hok.1
  unfold g_w_szFloat32SS
  rw [isub_ok (by omega) (by omega), szL_sum]
  by_cases hc : (a.length : Int) ≤ left
  · rw [ilt_f (by omega), cond_f]
    have := sz_loop (step := L_w_szFloat32SS_1) (s := z_F32S) (p := fun x => Ty.ok (.slice (.flt .f32)) x) (fun rec' pre x suf left t hp h0 h3 hb => by
      have hb2 := hb; rw [List.length_append, List.length_cons] at hb2
      have hs : t_w_szFloat32S x left = (if (z_F32S x : Int) ≤ left then left - z_F32S x else -1) := c_w_szFloat32S x left hp (by omega) (by omega)
      simp (disch := omega) only [L_w_szFloat32SS_1, ilt_mid, ix_mid, getD_mid, iadd_ok, opt_bind_some, cond_t, hs]
      by_cases hd : (z_F32S x : Int) ≤ left
      · simp only [if_pos hd]; rw [ilt_f (by omega)]; rfl
      · simp only [if_neg hd]; try rfl) (fun rec' a left t => by simp only [L_w_szFloat32SS_1, ilt_end, cond_f]) a [] fuel (left - a.length) 0 (fun x hx => hok.2 x hx) (by omega) (by omega) (by simp only [List.nil_append]; omega) (by unfold fuel; omega)
    simp only [List.nil_append, List.length_nil] at this
    rw [show ((0 : Nat) : Int) = 0 from rfl] at this
    rw [this]
    by_cases hd : (sumL z_F32S a : Int) ≤ left - a.length
    · have hd' : ((a.length + sumL z_F32S a : Nat) : Int) ≤ left := by omega
      simp only [hd, hd', if_true]; simp only [opt_bind_some, cond_f, Int.natCast_add, Int.sub_sub]
    · have hd' : ¬ ((a.length + sumL z_F32S a : Nat) : Int) ≤ left := by omega
      simp only [hd, hd', if_false]; rfl
  · have hd' : ¬ ((a.length + sumL z_F32S a : Nat) : Int) ≤ left := by omega
    rw [ilt_t (by omega)]; simp only [hd', if_false]; rfl
theorem c_w_toFloat32SS (a : (List (List Nat))) (h : szL z_F32S a ≤ 1073741824) : g_w_toFloat32SS a = some (a) := by
  have hl := szL_len (s := z_F32S) a
  unfold g_w_toFloat32SS
  rw [mkOk_t (by omega) (by omega) (by omega), cond_t]
  have := to_loop (step := L_w_toFloat32SS_1) (z := []) (p := fun x => z_F32S x ≤ 1073741824) (fun rec' pre x suf r hp hb => by
    have hb2 := hb; rw [List.length_append, List.length_cons] at hb2; have hp2 := hp; try unfold z_F32S at hp2
    simp (disch := first | omega | assumption) only [L_w_toFloat32SS_1, ilt_mid, ix_mid, getD_mid, set_mid, iadd_ok, opt_bind_some, cond_t, cond_f, bnot_t, bnot_f, cond_same, ieq_self, beqB_self, c_w_toFloat32S]) (fun rec' a => by simp only [L_w_toFloat32SS_1, ilt_end, cond_f]) a [] fuel (fun x hx => Nat.le_trans (szL_mem hx) h) (by simp only [List.nil_append]; omega) (by unfold fuel; omega)
  simp only [List.nil_append, List.length_nil] at this
  rw [show ((0 : Nat) : Int) = 0 from rfl] at this
  first | rw [this] | (simp only [z_consts] at this ⊢; rw [this])
  rfl
theorem c_w_eqFloat32SS (a : (List (List Nat))) (h : szL z_F32S a ≤ 1073741824) : g_w_eqFloat32SS a a = some true := by
  have hl := szL_len (s := z_F32S) a
  unfold g_w_eqFloat32SS
  rw [ieq_self, bnot_t, cond_f]
  have := eq_loop (step := L_w_eqFloat32SS_1) (p := fun x => z_F32S x ≤ 1073741824) (fun rec' pre x suf t hp hb => by
    have hb2 := hb; rw [List.length_append, List.length_cons] at hb2; have hp2 := hp; try unfold z_F32S at hp2
    simp (disch := first | omega | assumption) only [L_w_eqFloat32SS_1, ilt_mid, ix_mid, getD_mid, iadd_ok, opt_bind_some, cond_t, cond_f, bnot_t, bnot_f, cond_same, ieq_self, beqB_self, c_w_eqFloat32S]) (fun rec' a t => by simp only [L_w_eqFloat32SS_1, ilt_end, cond_f]) a [] fuel false (fun x hx => Nat.le_trans (szL_mem hx) h) (by simp only [List.nil_append]; omega) (by unfold fuel; omega)
  simp only [List.nil_append, List.length_nil] at this
  rw [show ((0 : Nat) : Int) = 0 from rfl] at this
  rw [this]
  rfl
theorem c_w_markFloat32SS (a : (List (List Nat))) (k : Int) (h : szL z_F32S a ≤ 1073741824) (h0 : 0 ≤ k) (hk : k + sumL c_F32S a < 4611686018427387904) : g_w_markFloat32SS a k = some (k + sumL c_F32S a, (mkL m_F32S c_F32S a k, (k, ()))) := by
  have hl := szL_len (s := z_F32S) a
  unfold g_w_markFloat32SS
  have := mark_loop (step := L_w_markFloat32SS_1) (m := m_F32S) (c := c_F32S) (p := fun x => z_F32S x ≤ 1073741824) (fun rec' pre x suf k hp h0 hk hb => by
    have hb2 := hb; rw [List.length_append, List.length_cons] at hb2; have hk2 := hk; have hp2 := hp; simp only [c_F32S, z_F32S, Int.natCast_add] at hk2 hp2
    simp (disch := omega) only [L_w_markFloat32SS_1, ilt_mid, ix_mid, getD_mid, set_mid, iadd_ok, opt_bind_some, cond_t, cond_f, bnot_t, bnot_f, cond_same, ieq_self, beqB_self, c_w_markFloat32S]
    simp only [c_F32S, m_F32S, z_F32S, Int.natCast_add, Int.cast_ofNat_Int, Int.add_assoc, Int.reduceAdd, Int.natCast_one]) (fun rec' a k => by simp only [L_w_markFloat32SS_1, ilt_end, cond_f]) a [] fuel k (fun x hx => Nat.le_trans (szL_mem hx) h) h0 hk (by simp only [List.nil_append]; omega) (by unfold fuel; omega)
  simp only [List.nil_append, List.length_nil] at this
  rw [show ((0 : Nat) : Int) = 0 from rfl] at this
  rw [this]
  rfl
theorem c_w_markPoseS (a : (List dPose)) (k : Int) (h : szL z_Pose a ≤ 1073741824) (h0 : 0 ≤ k) (hk : k + sumL c_Pose a < 4611686018427387904) : g_w_markPoseS a k = some (k + sumL c_Pose a, (mkL m_Pose c_Pose a k, (k, ()))) := by
  have hl := szL_len (s := z_Pose) a
  unfold g_w_markPoseS
  have := mark_loop (step := L_w_markPoseS_1) (m := m_Pose) (c := c_Pose) (p := fun x => z_Pose x ≤ 1073741824) (fun rec' pre x suf k hp h0 hk hb => by
    have hb2 := hb; rw [List.length_append, List.length_cons] at hb2; have hk2 := hk; have hp2 := hp; simp only [c_Pose, z_Pose, Int.natCast_add] at hk2 hp2
    simp (disch := omega) only [L_w_markPoseS_1, ilt_mid, ix_mid, getD_mid, set_mid, iadd_ok, opt_bind_some, cond_t, cond_f, bnot_t, bnot_f, cond_same, ieq_self, beqB_self, c_w_markTurnS]
    simp only [c_Pose, m_Pose, z_Pose, Int.natCast_add, Int.cast_ofNat_Int, Int.add_assoc, Int.reduceAdd, Int.natCast_one]) (fun rec' a k => by simp only [L_w_markPoseS_1, ilt_end, cond_f]) a [] fuel k (fun x hx => Nat.le_trans (szL_mem hx) h) h0 hk (by simp only [List.nil_append]; omega) (by unfold fuel; omega)
  simp only [List.nil_append, List.length_nil] at this
  rw [show ((0 : Nat) : Int) = 0 from rfl] at this
  rw [this]
  rfl
theorem c_w_heldPoseS (a : (List dPose)) (k : Int) (h : szL z_Pose a ≤ 1073741824) (h0 : 0 ≤ k) (hk : k + sumL c_Pose a < 4611686018427387904) : g_w_heldPoseS (mkL m_Pose c_Pose a k) k = some (k + sumL c_Pose a) := by
  have hl := szL_len (s := z_Pose) a
  unfold g_w_heldPoseS
  have := held_loop (step := L_w_heldPoseS_1) (m := m_Pose) (c := c_Pose) (p := fun x => z_Pose x ≤ 1073741824) (fun rec' pre x suf k t hp h0 hk hb => by
    have hb2 := hb; rw [List.length_append, List.length_cons] at hb2; have hk2 := hk; have hp2 := hp; simp only [c_Pose, z_Pose, Int.natCast_add] at hk2 hp2
    simp (disch := omega) only [L_w_heldPoseS_1, ilt_mid, ix_mid, getD_mid, iadd_ok, ilt_f, feq_fofInt, opt_bind_some, cond_t, cond_f, bnot_t, bnot_f, cond_same, ieq_self, beqB_self, c_w_heldTurnS]
    simp (disch := omega) only [c_Pose, m_Pose, z_Pose, opt_bind_some, ilt_f, feq_fofInt, opt_bind_some, cond_t, cond_f, bnot_t, bnot_f, cond_same, ieq_self, beqB_self, c_w_heldTurnS, Int.natCast_add, Int.cast_ofNat_Int, Int.add_assoc, Int.reduceAdd, Int.natCast_one]) (fun rec' a k t => by simp only [L_w_heldPoseS_1, ilt_end, cond_f]) a [] fuel k 0 (fun x hx => Nat.le_trans (szL_mem hx) h) h0 hk (by simp only [List.nil_append, mkL_length]; omega) (by unfold fuel; omega)
  simp only [List.nil_append, List.length_nil] at this
  rw [show ((0 : Nat) : Int) = 0 from rfl] at this
  rw [this]
  rfl
end Go.Fw
