/- What the laws' own functions compute. No condition. -/
import Derived.Test.YtobcfldhacdpiaaGreatCThy
import Derived.Test.YtobcfldhacdpiaaGreatZPure
set_option linter.unusedVariables false
set_option linter.unusedSimpArgs false
namespace Go.Fw
theorem c_w_markKeyS (a : (List dKey)) (k : Int) (h : szL z_Key a ≤ 1073741824) (h0 : 0 ≤ k) (hk : k + sumL c_Key a < 4611686018427387904) : g_w_markKeyS a k = some (k + sumL c_Key a, (mkL m_Key c_Key a k, (k, ()))) := by
  have hl := szL_len (s := z_Key) a
  unfold g_w_markKeyS
  have := mark_loop (step := L_w_markKeyS_1) (m := m_Key) (c := c_Key) (p := fun x => z_Key x ≤ 1073741824) (fun rec' pre x suf k hp h0 hk hb => by
    have hb2 := hb; rw [List.length_append, List.length_cons] at hb2; have hk2 := hk; have hp2 := hp; simp only [c_Key, z_Key, Int.natCast_add] at hk2 hp2
    simp (disch := omega) only [L_w_markKeyS_1, ilt_mid, ix_mid, getD_mid, set_mid, iadd_ok, opt_bind_some, cond_t, cond_f, bnot_t, bnot_f, cond_same, ieq_self, beqB_self]
    simp only [c_Key, m_Key, z_Key, Int.natCast_add, Int.cast_ofNat_Int, Int.add_assoc, Int.reduceAdd, Int.natCast_one]) (fun rec' a k => by simp only [L_w_markKeyS_1, ilt_end, cond_f]) a [] fuel k (fun x hx => Nat.le_trans (szL_mem hx) h) h0 hk (by simp only [List.nil_append]; omega) (by unfold fuel; omega)
  simp only [List.nil_append, List.length_nil] at this
  rw [show ((0 : Nat) : Int) = 0 from rfl] at this
  rw [this]
  rfl
theorem c_w_markKeySS (a : (List (List dKey))) (k : Int) (h : szL z_KeyS a ≤ 1073741824) (h0 : 0 ≤ k) (hk : k + sumL c_KeyS a < 4611686018427387904) : g_w_markKeySS a k = some (k + sumL c_KeyS a, (mkL m_KeyS c_KeyS a k, (k, ()))) := by
  have hl := szL_len (s := z_KeyS) a
  unfold g_w_markKeySS
  have := mark_loop (step := L_w_markKeySS_1) (m := m_KeyS) (c := c_KeyS) (p := fun x => z_KeyS x ≤ 1073741824) (fun rec' pre x suf k hp h0 hk hb => by
    have hb2 := hb; rw [List.length_append, List.length_cons] at hb2; have hk2 := hk; have hp2 := hp; simp only [c_KeyS, z_KeyS, Int.natCast_add] at hk2 hp2
    simp (disch := omega) only [L_w_markKeySS_1, ilt_mid, ix_mid, getD_mid, set_mid, iadd_ok, opt_bind_some, cond_t, cond_f, bnot_t, bnot_f, cond_same, ieq_self, beqB_self, c_w_markKeyS]
    simp only [c_KeyS, m_KeyS, z_KeyS, Int.natCast_add, Int.cast_ofNat_Int, Int.add_assoc, Int.reduceAdd, Int.natCast_one]) (fun rec' a k => by simp only [L_w_markKeySS_1, ilt_end, cond_f]) a [] fuel k (fun x hx => Nat.le_trans (szL_mem hx) h) h0 hk (by simp only [List.nil_append]; omega) (by unfold fuel; omega)
  simp only [List.nil_append, List.length_nil] at this
  rw [show ((0 : Nat) : Int) = 0 from rfl] at this
  rw [this]
  rfl
theorem c_w_markRootKeyS (a : (List dRootKey)) (k : Int) (h : szL z_RootKey a ≤ 1073741824) (h0 : 0 ≤ k) (hk : k + sumL c_RootKey a < 4611686018427387904) : g_w_markRootKeyS a k = some (k + sumL c_RootKey a, (mkL m_RootKey c_RootKey a k, (k, ()))) := by
  have hl := szL_len (s := z_RootKey) a
  unfold g_w_markRootKeyS
  have := mark_loop (step := L_w_markRootKeyS_1) (m := m_RootKey) (c := c_RootKey) (p := fun x => z_RootKey x ≤ 1073741824) (fun rec' pre x suf k hp h0 hk hb => by
    have hb2 := hb; rw [List.length_append, List.length_cons] at hb2; have hk2 := hk; have hp2 := hp; simp only [c_RootKey, z_RootKey, Int.natCast_add] at hk2 hp2
    simp (disch := omega) only [L_w_markRootKeyS_1, ilt_mid, ix_mid, getD_mid, set_mid, iadd_ok, opt_bind_some, cond_t, cond_f, bnot_t, bnot_f, cond_same, ieq_self, beqB_self]
    simp only [c_RootKey, m_RootKey, z_RootKey, Int.natCast_add, Int.cast_ofNat_Int, Int.add_assoc, Int.reduceAdd, Int.natCast_one]) (fun rec' a k => by simp only [L_w_markRootKeyS_1, ilt_end, cond_f]) a [] fuel k (fun x hx => Nat.le_trans (szL_mem hx) h) h0 hk (by simp only [List.nil_append]; omega) (by unfold fuel; omega)
  simp only [List.nil_append, List.length_nil] at this
  rw [show ((0 : Nat) : Int) = 0 from rfl] at this
  rw [this]
  rfl
theorem c_w_markClipS (a : (List dClip)) (k : Int) (h : szL z_Clip a ≤ 1073741824) (h0 : 0 ≤ k) (hk : k + sumL c_Clip a < 4611686018427387904) : g_w_markClipS a k = some (k + sumL c_Clip a, (mkL m_Clip c_Clip a k, (k, ()))) := by
  have hl := szL_len (s := z_Clip) a
  unfold g_w_markClipS
  have := mark_loop (step := L_w_markClipS_1) (m := m_Clip) (c := c_Clip) (p := fun x => z_Clip x ≤ 1073741824) (fun rec' pre x suf k hp h0 hk hb => by
    have hb2 := hb; rw [List.length_append, List.length_cons] at hb2; have hk2 := hk; have hp2 := hp; simp only [c_Clip, z_Clip, Int.natCast_add] at hk2 hp2
    simp (disch := omega) only [L_w_markClipS_1, ilt_mid, ix_mid, getD_mid, set_mid, iadd_ok, opt_bind_some, cond_t, cond_f, bnot_t, bnot_f, cond_same, ieq_self, beqB_self, c_w_markKeySS, c_w_markRootKeyS]
    simp only [c_Clip, m_Clip, z_Clip, Int.natCast_add, Int.cast_ofNat_Int, Int.add_assoc, Int.reduceAdd, Int.natCast_one]) (fun rec' a k => by simp only [L_w_markClipS_1, ilt_end, cond_f]) a [] fuel k (fun x hx => Nat.le_trans (szL_mem hx) h) h0 hk (by simp only [List.nil_append]; omega) (by unfold fuel; omega)
  simp only [List.nil_append, List.length_nil] at this
  rw [show ((0 : Nat) : Int) = 0 from rfl] at this
  rw [this]
  rfl
end Go.Fw
