/- What the laws' own functions compute. No condition. -/
import Derived.Test.YtmfmdoppjcaedaaGreatDoorFwE
import Derived.Test.YtmfmdoppjcaedaaGreatDoorVPure
set_option linter.unusedVariables false
set_option linter.unusedSimpArgs false
namespace Go.Fw
def c_Key (x : dKey) : Nat := 5
def z_Key (x : dKey) : Nat := 0
theorem b1_Key (x : dKey) : c_Key x ≤ 16 * (1 + z_Key x) := by  unfold c_Key z_Key; omega
def c_KeyS (x : (List dKey)) : Nat := sumL c_Key x
def z_KeyS (x : (List dKey)) : Nat := szL z_Key x
theorem b_KeyS (x : (List dKey)) : c_KeyS x ≤ 16 * z_KeyS x := sumL_le b1_Key x
theorem b1_KeyS (x : (List dKey)) : c_KeyS x ≤ 16 * (1 + z_KeyS x) := by have := b_KeyS x; omega
theorem c_w_szKeyS (a : (List dKey)) (left : Int) (hok : Ty.ok (.slice tKey) a) (h1 : -1 ≤ left) (h2 : left < 4611686018427387904) : t_w_szKeyS a left = (if (szL z_Key a : Int) ≤ left then left - szL z_Key a else -1) := by
  have hl : a.length ≤ 9223372036854775807 := hok.1
  unfold t_w_szKeyS
  rw [show szL z_Key a = a.length from szL_zero a]
  rw [isub_ok (by omega) (by omega)]
  by_cases hc : (a.length : Int) ≤ left
  · rw [if_pos hc, ilt_f (by omega)]; rfl
  · rw [if_neg hc, ilt_t (by omega)]; rfl
theorem c_w_szKeySS (a : (List (List dKey))) (left : Int) (hok : Ty.ok (.slice (.slice tKey)) a) (h1 : -1 ≤ left) (h2 : left < 4611686018427387904) : g_w_szKeySS a left = some ((if (szL z_KeyS a : Int) ≤ left then left - szL z_KeyS a else -1)) := by
  have hl : a.length ≤ 9223372036854775807 := hok.1
  unfold g_w_szKeySS
  rw [isub_ok (by omega) (by omega), szL_sum]
  by_cases hc : (a.length : Int) ≤ left
  · rw [ilt_f (by omega), cond_f]
    have := sz_loop (step := L_w_szKeySS_1) (s := z_KeyS) (p := fun x => Ty.ok (.slice tKey) x) (fun rec' pre x suf left t hp h0 h3 hb => by
      have hb2 := hb; rw [List.length_append, List.length_cons] at hb2
      have hs : t_w_szKeyS x left = (if (z_KeyS x : Int) ≤ left then left - z_KeyS x else -1) := c_w_szKeyS x left hp (by omega) (by omega)
      simp (disch := omega) only [L_w_szKeySS_1, ilt_mid, ix_mid, getD_mid, iadd_ok, opt_bind_some, cond_t, hs]
      by_cases hd : (z_KeyS x : Int) ≤ left
      · simp only [if_pos hd]; rw [ilt_f (by omega)]; rfl
      · simp only [if_neg hd]; try rfl) (fun rec' a left t => by simp only [L_w_szKeySS_1, ilt_end, cond_f]) a [] fuel (left - a.length) 0 (fun x hx => hok.2 x hx) (by omega) (by omega) (by simp only [List.nil_append]; omega) (by unfold fuel; omega)
    simp only [List.nil_append, List.length_nil] at this
    rw [show ((0 : Nat) : Int) = 0 from rfl] at this
    rw [this]
    by_cases hd : (sumL z_KeyS a : Int) ≤ left - a.length
    · have hd' : ((a.length + sumL z_KeyS a : Nat) : Int) ≤ left := by omega
      simp only [hd, hd', if_true]; simp only [opt_bind_some, cond_f, Int.natCast_add, Int.sub_sub]
    · have hd' : ¬ ((a.length + sumL z_KeyS a : Nat) : Int) ≤ left := by omega
      simp only [hd, hd', if_false]; rfl
  · have hd' : ¬ ((a.length + sumL z_KeyS a : Nat) : Int) ≤ left := by omega
    rw [ilt_t (by omega)]; simp only [hd', if_false]; rfl
def c_RootKey (x : dRootKey) : Nat := 4
def z_RootKey (x : dRootKey) : Nat := 0
theorem b1_RootKey (x : dRootKey) : c_RootKey x ≤ 16 * (1 + z_RootKey x) := by  unfold c_RootKey z_RootKey; omega
theorem c_w_szRootKeyS (a : (List dRootKey)) (left : Int) (hok : Ty.ok (.slice tRootKey) a) (h1 : -1 ≤ left) (h2 : left < 4611686018427387904) : t_w_szRootKeyS a left = (if (szL z_RootKey a : Int) ≤ left then left - szL z_RootKey a else -1) := by
  have hl : a.length ≤ 9223372036854775807 := hok.1
  unfold t_w_szRootKeyS
  rw [show szL z_RootKey a = a.length from szL_zero a]
  rw [isub_ok (by omega) (by omega)]
  by_cases hc : (a.length : Int) ≤ left
  · rw [if_pos hc, ilt_f (by omega)]; rfl
  · rw [if_neg hc, ilt_t (by omega)]; rfl
def c_Clip (x : dClip) : Nat := 2 + sumL c_KeyS x.2.2.1 + sumL c_RootKey x.2.2.2.1
def z_Clip (x : dClip) : Nat := szL z_KeyS x.2.2.1 + szL z_RootKey x.2.2.2.1
theorem b1_Clip (x : dClip) : c_Clip x ≤ 16 * (1 + z_Clip x) := by have := sumL_le b1_KeyS x.2.2.1; have := sumL_le b1_RootKey x.2.2.2.1; unfold c_Clip z_Clip; omega
theorem c_w_szClip (a : dClip) (left : Int) (hok : Ty.ok tClip a) (h1 : -1 ≤ left) (h2 : left < 4611686018427387904) : g_w_szClip a left = some ((if (z_Clip a : Int) ≤ left then left - z_Clip a else -1)) := by
  unfold z_Clip
  obtain ⟨o0, o1, o2, o3, _⟩ := hok
  unfold g_w_szClip
  try dsimp only
  have e0 : -1 ≤ left := h1
  have f0 := fun (l : Int) h1 h2 => c_w_szKeySS a.2.2.1 l o2 h1 h2
  have f1 := fun (l : Int) h1 h2 => c_w_szRootKeyS a.2.2.2.1 l o3 h1 h2
  have r0 := f0 (left) (by omega) (by omega)
  by_cases c0 : ((szL z_KeyS a.2.2.1 : Nat) : Int) ≤ left
  · rw [if_pos c0] at r0
    simp (disch := omega) only [r0, opt_bind_some, ilt_f, cond_f]
    have r1 := f1 (left - (szL z_KeyS a.2.2.1 : Nat)) (by omega) (by omega)
    by_cases c1 : ((szL z_RootKey a.2.2.2.1 : Nat) : Int) ≤ left - (szL z_KeyS a.2.2.1 : Nat)
    · rw [if_pos c1] at r1
      simp (disch := omega) only [r1, opt_bind_some, ilt_f, cond_f]
      all_goals first | rw [if_pos (by omega)] | skip
      all_goals first | (simp only [opt_bind_some, cond_f, cond_t]; done) | (congr 1; omega) | (simp only [opt_bind_some, cond_f]; congr 1; omega) | omega
    · rw [if_neg c1] at r1
      rw [if_neg (by omega)]
      simp only [r1, opt_bind_some, show ilt (-1) 0 = true from rfl, cond_t]
  · rw [if_neg c0] at r0
    rw [if_neg (by omega)]
    have r1 := f1 (-1) (by omega) (by omega); rw [if_neg (by omega)] at r1
    simp only [r0, opt_bind_some, show ilt (-1) 0 = true from rfl, cond_t]
theorem c_w_szClipS (a : (List dClip)) (left : Int) (hok : Ty.ok (.slice tClip) a) (h1 : -1 ≤ left) (h2 : left < 4611686018427387904) : g_w_szClipS a left = some ((if (szL z_Clip a : Int) ≤ left then left - szL z_Clip a else -1)) := by
  have hl : a.length ≤ 9223372036854775807 := hok.1
  unfold g_w_szClipS
  rw [isub_ok (by omega) (by omega), szL_sum]
  by_cases hc : (a.length : Int) ≤ left
  · rw [ilt_f (by omega), cond_f]
    have := sz_loop (step := L_w_szClipS_1) (s := z_Clip) (p := fun x => Ty.ok tClip x) (fun rec' pre x suf left t hp h0 h3 hb => by
      have hb2 := hb; rw [List.length_append, List.length_cons] at hb2
      have hs : g_w_szClip x left = some (if (z_Clip x : Int) ≤ left then left - z_Clip x else -1) := c_w_szClip x left hp (by omega) (by omega)
      simp (disch := omega) only [L_w_szClipS_1, ilt_mid, ix_mid, getD_mid, iadd_ok, opt_bind_some, cond_t, hs]
      by_cases hd : (z_Clip x : Int) ≤ left
      · simp only [if_pos hd]; rw [ilt_f (by omega)]; rfl
      · simp only [if_neg hd]; try rfl) (fun rec' a left t => by simp only [L_w_szClipS_1, ilt_end, cond_f]) a [] fuel (left - a.length) 0 (fun x hx => hok.2 x hx) (by omega) (by omega) (by simp only [List.nil_append]; omega) (by unfold fuel; omega)
    simp only [List.nil_append, List.length_nil] at this
    rw [show ((0 : Nat) : Int) = 0 from rfl] at this
    rw [this]
    by_cases hd : (sumL z_Clip a : Int) ≤ left - a.length
    · have hd' : ((a.length + sumL z_Clip a : Nat) : Int) ≤ left := by omega
      simp only [hd, hd', if_true]; simp only [opt_bind_some, cond_f, Int.natCast_add, Int.sub_sub]
    · have hd' : ¬ ((a.length + sumL z_Clip a : Nat) : Int) ≤ left := by omega
      simp only [hd, hd', if_false]; rfl
  · have hd' : ¬ ((a.length + sumL z_Clip a : Nat) : Int) ≤ left := by omega
    rw [ilt_t (by omega)]; simp only [hd', if_false]; rfl
def c_State (x : dState) : Nat := 3
def z_State (x : dState) : Nat := 0
theorem b1_State (x : dState) : c_State x ≤ 16 * (1 + z_State x) := by  unfold c_State z_State; omega
theorem c_w_szStateS (a : (List dState)) (left : Int) (hok : Ty.ok (.slice tState) a) (h1 : -1 ≤ left) (h2 : left < 4611686018427387904) : t_w_szStateS a left = (if (szL z_State a : Int) ≤ left then left - szL z_State a else -1) := by
  have hl : a.length ≤ 9223372036854775807 := hok.1
  unfold t_w_szStateS
  rw [show szL z_State a = a.length from szL_zero a]
  rw [isub_ok (by omega) (by omega)]
  by_cases hc : (a.length : Int) ≤ left
  · rw [if_pos hc, ilt_f (by omega)]; rfl
  · rw [if_neg hc, ilt_t (by omega)]; rfl
def c_Rule (x : dRule) : Nat := 6
def z_Rule (x : dRule) : Nat := 0
theorem b1_Rule (x : dRule) : c_Rule x ≤ 16 * (1 + z_Rule x) := by  unfold c_Rule z_Rule; omega
theorem c_w_szRuleS (a : (List dRule)) (left : Int) (hok : Ty.ok (.slice tRule) a) (h1 : -1 ≤ left) (h2 : left < 4611686018427387904) : t_w_szRuleS a left = (if (szL z_Rule a : Int) ≤ left then left - szL z_Rule a else -1) := by
  have hl : a.length ≤ 9223372036854775807 := hok.1
  unfold t_w_szRuleS
  rw [show szL z_Rule a = a.length from szL_zero a]
  rw [isub_ok (by omega) (by omega)]
  by_cases hc : (a.length : Int) ≤ left
  · rw [if_pos hc, ilt_f (by omega)]; rfl
  · rw [if_neg hc, ilt_t (by omega)]; rfl
def z_Machine (x : dMachine) : Nat := szL z_Clip x.1 + szL z_State x.2.1 + szL z_Rule x.2.2.1
def cv_Machine (x : dMachine) : Nat := sumL c_Clip x.1 + sumL c_State x.2.1 + sumL c_Rule x.2.2.1
theorem bv_Machine (x : dMachine) : cv_Machine x ≤ 16 * z_Machine x := by have := sumL_le b1_Clip x.1; have := sumL_le b1_State x.2.1; have := sumL_le b1_Rule x.2.2.1; unfold cv_Machine z_Machine; omega
theorem c_w_szMachine (a : dMachine) (left : Int) (hok : Ty.ok tMachine a) (h1 : -1 ≤ left) (h2 : left < 4611686018427387904) : g_w_szMachine a left = some ((if (z_Machine a : Int) ≤ left then left - z_Machine a else -1)) := by
  unfold z_Machine
  obtain ⟨o0, o1, o2, _⟩ := hok
  unfold g_w_szMachine
  try dsimp only
  have e0 : -1 ≤ left := h1
  have f0 := fun (l : Int) h1 h2 => c_w_szClipS a.1 l o0 h1 h2
  have f1 := fun (l : Int) h1 h2 => c_w_szStateS a.2.1 l o1 h1 h2
  have f2 := fun (l : Int) h1 h2 => c_w_szRuleS a.2.2.1 l o2 h1 h2
  have r0 := f0 (left) (by omega) (by omega)
  by_cases c0 : ((szL z_Clip a.1 : Nat) : Int) ≤ left
  · rw [if_pos c0] at r0
    simp (disch := omega) only [r0, opt_bind_some, ilt_f, cond_f]
    have r1 := f1 (left - (szL z_Clip a.1 : Nat)) (by omega) (by omega)
    by_cases c1 : ((szL z_State a.2.1 : Nat) : Int) ≤ left - (szL z_Clip a.1 : Nat)
    · rw [if_pos c1] at r1
      simp (disch := omega) only [r1, opt_bind_some, ilt_f, cond_f]
      have r2 := f2 (left - (szL z_Clip a.1 : Nat) - (szL z_State a.2.1 : Nat)) (by omega) (by omega)
      by_cases c2 : ((szL z_Rule a.2.2.1 : Nat) : Int) ≤ left - (szL z_Clip a.1 : Nat) - (szL z_State a.2.1 : Nat)
      · rw [if_pos c2] at r2
        simp (disch := omega) only [r2, opt_bind_some, ilt_f, cond_f]
        all_goals first | rw [if_pos (by omega)] | skip
        all_goals first | (simp only [opt_bind_some, cond_f, cond_t]; done) | (congr 1; omega) | (simp only [opt_bind_some, cond_f]; congr 1; omega) | omega
      · rw [if_neg c2] at r2
        rw [if_neg (by omega)]
        simp only [r2, opt_bind_some, show ilt (-1) 0 = true from rfl, cond_t]
    · rw [if_neg c1] at r1
      rw [if_neg (by omega)]
      have r2 := f2 (-1) (by omega) (by omega); rw [if_neg (by omega)] at r2
      simp only [r1, opt_bind_some, show ilt (-1) 0 = true from rfl, cond_t]
  · rw [if_neg c0] at r0
    rw [if_neg (by omega)]
    have r1 := f1 (-1) (by omega) (by omega); rw [if_neg (by omega)] at r1
    have r2 := f2 (-1) (by omega) (by omega); rw [if_neg (by omega)] at r2
    simp only [r0, opt_bind_some, show ilt (-1) 0 = true from rfl, cond_t]
theorem c_w_toKey (a : dKey) : t_w_toKey a = a := rfl
theorem c_w_toKeyS (a : (List dKey)) (h : szL z_Key a ≤ 1073741824) : g_w_toKeyS a = some (a) := by
  have hl := szL_len (s := z_Key) a
  unfold g_w_toKeyS
  rw [mkOk_t (by omega) (by omega) (by omega), cond_t]
  have := to_loop (step := L_w_toKeyS_1) (z := zKey) (p := fun x => z_Key x ≤ 1073741824) (fun rec' pre x suf r hp hb => by
    have hb2 := hb; rw [List.length_append, List.length_cons] at hb2; have hp2 := hp; try unfold z_Key at hp2
    simp (disch := first | omega | assumption) only [L_w_toKeyS_1, ilt_mid, ix_mid, getD_mid, set_mid, iadd_ok, opt_bind_some, cond_t, cond_f, bnot_t, bnot_f, cond_same, ieq_self, beqB_self, c_w_toKey]) (fun rec' a => by simp only [L_w_toKeyS_1, ilt_end, cond_f]) a [] fuel (fun x hx => Nat.le_trans (szL_mem hx) h) (by simp only [List.nil_append]; omega) (by unfold fuel; omega)
  simp only [List.nil_append, List.length_nil] at this
  rw [show ((0 : Nat) : Int) = 0 from rfl] at this
  first | rw [this] | (simp only [z_consts] at this ⊢; rw [this])
  rfl
theorem c_w_toKeySS (a : (List (List dKey))) (h : szL z_KeyS a ≤ 1073741824) : g_w_toKeySS a = some (a) := by
  have hl := szL_len (s := z_KeyS) a
  unfold g_w_toKeySS
  rw [mkOk_t (by omega) (by omega) (by omega), cond_t]
  have := to_loop (step := L_w_toKeySS_1) (z := []) (p := fun x => z_KeyS x ≤ 1073741824) (fun rec' pre x suf r hp hb => by
    have hb2 := hb; rw [List.length_append, List.length_cons] at hb2; have hp2 := hp; try unfold z_KeyS at hp2
    simp (disch := first | omega | assumption) only [L_w_toKeySS_1, ilt_mid, ix_mid, getD_mid, set_mid, iadd_ok, opt_bind_some, cond_t, cond_f, bnot_t, bnot_f, cond_same, ieq_self, beqB_self, c_w_toKeyS]) (fun rec' a => by simp only [L_w_toKeySS_1, ilt_end, cond_f]) a [] fuel (fun x hx => Nat.le_trans (szL_mem hx) h) (by simp only [List.nil_append]; omega) (by unfold fuel; omega)
  simp only [List.nil_append, List.length_nil] at this
  rw [show ((0 : Nat) : Int) = 0 from rfl] at this
  first | rw [this] | (simp only [z_consts] at this ⊢; rw [this])
  rfl
theorem c_w_toRootKey (a : dRootKey) : t_w_toRootKey a = a := rfl
theorem c_w_toRootKeyS (a : (List dRootKey)) (h : szL z_RootKey a ≤ 1073741824) : g_w_toRootKeyS a = some (a) := by
  have hl := szL_len (s := z_RootKey) a
  unfold g_w_toRootKeyS
  rw [mkOk_t (by omega) (by omega) (by omega), cond_t]
  have := to_loop (step := L_w_toRootKeyS_1) (z := zRootKey) (p := fun x => z_RootKey x ≤ 1073741824) (fun rec' pre x suf r hp hb => by
    have hb2 := hb; rw [List.length_append, List.length_cons] at hb2; have hp2 := hp; try unfold z_RootKey at hp2
    simp (disch := first | omega | assumption) only [L_w_toRootKeyS_1, ilt_mid, ix_mid, getD_mid, set_mid, iadd_ok, opt_bind_some, cond_t, cond_f, bnot_t, bnot_f, cond_same, ieq_self, beqB_self, c_w_toRootKey]) (fun rec' a => by simp only [L_w_toRootKeyS_1, ilt_end, cond_f]) a [] fuel (fun x hx => Nat.le_trans (szL_mem hx) h) (by simp only [List.nil_append]; omega) (by unfold fuel; omega)
  simp only [List.nil_append, List.length_nil] at this
  rw [show ((0 : Nat) : Int) = 0 from rfl] at this
  first | rw [this] | (simp only [z_consts] at this ⊢; rw [this])
  rfl
theorem c_w_toClip (a : dClip) (h : z_Clip a ≤ 1073741824) : g_w_toClip a = some (a) := by
  unfold z_Clip at h; unfold g_w_toClip; simp (disch := omega) only [opt_bind_some, cond_t, cond_f, bnot_t, bnot_f, cond_same, ieq_self, beqB_self, c_w_toKeySS, c_w_toRootKeyS]
theorem c_w_toClipS (a : (List dClip)) (h : szL z_Clip a ≤ 1073741824) : g_w_toClipS a = some (a) := by
  have hl := szL_len (s := z_Clip) a
  unfold g_w_toClipS
  rw [mkOk_t (by omega) (by omega) (by omega), cond_t]
  have := to_loop (step := L_w_toClipS_1) (z := zClip) (p := fun x => z_Clip x ≤ 1073741824) (fun rec' pre x suf r hp hb => by
    have hb2 := hb; rw [List.length_append, List.length_cons] at hb2; have hp2 := hp; try unfold z_Clip at hp2
    simp (disch := first | omega | assumption) only [L_w_toClipS_1, ilt_mid, ix_mid, getD_mid, set_mid, iadd_ok, opt_bind_some, cond_t, cond_f, bnot_t, bnot_f, cond_same, ieq_self, beqB_self, c_w_toClip]) (fun rec' a => by simp only [L_w_toClipS_1, ilt_end, cond_f]) a [] fuel (fun x hx => Nat.le_trans (szL_mem hx) h) (by simp only [List.nil_append]; omega) (by unfold fuel; omega)
  simp only [List.nil_append, List.length_nil] at this
  rw [show ((0 : Nat) : Int) = 0 from rfl] at this
  first | rw [this] | (simp only [z_consts] at this ⊢; rw [this])
  rfl
theorem c_w_toState (a : dState) : t_w_toState a = a := rfl
theorem c_w_toStateS (a : (List dState)) (h : szL z_State a ≤ 1073741824) : g_w_toStateS a = some (a) := by
  have hl := szL_len (s := z_State) a
  unfold g_w_toStateS
  rw [mkOk_t (by omega) (by omega) (by omega), cond_t]
  have := to_loop (step := L_w_toStateS_1) (z := zState) (p := fun x => z_State x ≤ 1073741824) (fun rec' pre x suf r hp hb => by
    have hb2 := hb; rw [List.length_append, List.length_cons] at hb2; have hp2 := hp; try unfold z_State at hp2
    simp (disch := first | omega | assumption) only [L_w_toStateS_1, ilt_mid, ix_mid, getD_mid, set_mid, iadd_ok, opt_bind_some, cond_t, cond_f, bnot_t, bnot_f, cond_same, ieq_self, beqB_self, c_w_toState]) (fun rec' a => by simp only [L_w_toStateS_1, ilt_end, cond_f]) a [] fuel (fun x hx => Nat.le_trans (szL_mem hx) h) (by simp only [List.nil_append]; omega) (by unfold fuel; omega)
  simp only [List.nil_append, List.length_nil] at this
  rw [show ((0 : Nat) : Int) = 0 from rfl] at this
  first | rw [this] | (simp only [z_consts] at this ⊢; rw [this])
  rfl
theorem c_w_toRule (a : dRule) : t_w_toRule a = a := rfl
theorem c_w_toRuleS (a : (List dRule)) (h : szL z_Rule a ≤ 1073741824) : g_w_toRuleS a = some (a) := by
  have hl := szL_len (s := z_Rule) a
  unfold g_w_toRuleS
  rw [mkOk_t (by omega) (by omega) (by omega), cond_t]
  have := to_loop (step := L_w_toRuleS_1) (z := zRule) (p := fun x => z_Rule x ≤ 1073741824) (fun rec' pre x suf r hp hb => by
    have hb2 := hb; rw [List.length_append, List.length_cons] at hb2; have hp2 := hp; try unfold z_Rule at hp2
    simp (disch := first | omega | assumption) only [L_w_toRuleS_1, ilt_mid, ix_mid, getD_mid, set_mid, iadd_ok, opt_bind_some, cond_t, cond_f, bnot_t, bnot_f, cond_same, ieq_self, beqB_self, c_w_toRule]) (fun rec' a => by simp only [L_w_toRuleS_1, ilt_end, cond_f]) a [] fuel (fun x hx => Nat.le_trans (szL_mem hx) h) (by simp only [List.nil_append]; omega) (by unfold fuel; omega)
  simp only [List.nil_append, List.length_nil] at this
  rw [show ((0 : Nat) : Int) = 0 from rfl] at this
  first | rw [this] | (simp only [z_consts] at this ⊢; rw [this])
  rfl
theorem c_w_toMachine (a : dMachine) (h : z_Machine a ≤ 1073741824) : g_w_toMachine a = some (a) := by
  unfold z_Machine at h; unfold g_w_toMachine; simp (disch := omega) only [opt_bind_some, cond_t, cond_f, bnot_t, bnot_f, cond_same, ieq_self, beqB_self, c_w_toClipS, c_w_toStateS, c_w_toRuleS]
theorem c_w_toRun (a : dRun) : t_w_toRun a = a := rfl
theorem c_w_sameFloat (a : Nat) : t_w_sameFloat a a = true := by
  unfold t_w_sameFloat; cases feq .f64 a a <;> cases feq .f64 a 0 <;> simp [beqB_self]
theorem c_w_eqTurn (a : dTurn) : t_w_eqTurn a a = true := by
  unfold t_w_eqTurn; simp only [opt_bind_some, cond_t, cond_f, bnot_t, bnot_f, cond_same, ieq_self, beqB_self, c_w_sameFloat]
theorem c_w_eqKey (a : dKey) : t_w_eqKey a a = true := by
  unfold t_w_eqKey; simp only [opt_bind_some, cond_t, cond_f, bnot_t, bnot_f, cond_same, ieq_self, beqB_self, c_w_eqTurn]
theorem c_w_eqKeyS (a : (List dKey)) (h : szL z_Key a ≤ 1073741824) : g_w_eqKeyS a a = some true := by
  have hl := szL_len (s := z_Key) a
  unfold g_w_eqKeyS
  rw [ieq_self, bnot_t, cond_f]
  have := eq_loop (step := L_w_eqKeyS_1) (p := fun x => z_Key x ≤ 1073741824) (fun rec' pre x suf t hp hb => by
    have hb2 := hb; rw [List.length_append, List.length_cons] at hb2; have hp2 := hp; try unfold z_Key at hp2
    simp (disch := first | omega | assumption) only [L_w_eqKeyS_1, ilt_mid, ix_mid, getD_mid, iadd_ok, opt_bind_some, cond_t, cond_f, bnot_t, bnot_f, cond_same, ieq_self, beqB_self, c_w_eqKey]) (fun rec' a t => by simp only [L_w_eqKeyS_1, ilt_end, cond_f]) a [] fuel false (fun x hx => Nat.le_trans (szL_mem hx) h) (by simp only [List.nil_append]; omega) (by unfold fuel; omega)
  simp only [List.nil_append, List.length_nil] at this
  rw [show ((0 : Nat) : Int) = 0 from rfl] at this
  rw [this]
  rfl
theorem c_w_eqKeySS (a : (List (List dKey))) (h : szL z_KeyS a ≤ 1073741824) : g_w_eqKeySS a a = some true := by
  have hl := szL_len (s := z_KeyS) a
  unfold g_w_eqKeySS
  rw [ieq_self, bnot_t, cond_f]
  have := eq_loop (step := L_w_eqKeySS_1) (p := fun x => z_KeyS x ≤ 1073741824) (fun rec' pre x suf t hp hb => by
    have hb2 := hb; rw [List.length_append, List.length_cons] at hb2; have hp2 := hp; try unfold z_KeyS at hp2
    simp (disch := first | omega | assumption) only [L_w_eqKeySS_1, ilt_mid, ix_mid, getD_mid, iadd_ok, opt_bind_some, cond_t, cond_f, bnot_t, bnot_f, cond_same, ieq_self, beqB_self, c_w_eqKeyS]) (fun rec' a t => by simp only [L_w_eqKeySS_1, ilt_end, cond_f]) a [] fuel false (fun x hx => Nat.le_trans (szL_mem hx) h) (by simp only [List.nil_append]; omega) (by unfold fuel; omega)
  simp only [List.nil_append, List.length_nil] at this
  rw [show ((0 : Nat) : Int) = 0 from rfl] at this
  rw [this]
  rfl
theorem c_w_eqVector (a : dVec) : t_w_eqVector a a = true := by
  unfold t_w_eqVector; simp only [opt_bind_some, cond_t, cond_f, bnot_t, bnot_f, cond_same, ieq_self, beqB_self, c_w_sameFloat]
theorem c_w_eqRootKey (a : dRootKey) : t_w_eqRootKey a a = true := by
  unfold t_w_eqRootKey; simp only [opt_bind_some, cond_t, cond_f, bnot_t, bnot_f, cond_same, ieq_self, beqB_self, c_w_eqVector]
theorem c_w_eqRootKeyS (a : (List dRootKey)) (h : szL z_RootKey a ≤ 1073741824) : g_w_eqRootKeyS a a = some true := by
  have hl := szL_len (s := z_RootKey) a
  unfold g_w_eqRootKeyS
  rw [ieq_self, bnot_t, cond_f]
  have := eq_loop (step := L_w_eqRootKeyS_1) (p := fun x => z_RootKey x ≤ 1073741824) (fun rec' pre x suf t hp hb => by
    have hb2 := hb; rw [List.length_append, List.length_cons] at hb2; have hp2 := hp; try unfold z_RootKey at hp2
    simp (disch := first | omega | assumption) only [L_w_eqRootKeyS_1, ilt_mid, ix_mid, getD_mid, iadd_ok, opt_bind_some, cond_t, cond_f, bnot_t, bnot_f, cond_same, ieq_self, beqB_self, c_w_eqRootKey]) (fun rec' a t => by simp only [L_w_eqRootKeyS_1, ilt_end, cond_f]) a [] fuel false (fun x hx => Nat.le_trans (szL_mem hx) h) (by simp only [List.nil_append]; omega) (by unfold fuel; omega)
  simp only [List.nil_append, List.length_nil] at this
  rw [show ((0 : Nat) : Int) = 0 from rfl] at this
  rw [this]
  rfl
theorem c_w_eqClip (a : dClip) (h : z_Clip a ≤ 1073741824) : g_w_eqClip a a = some true := by
  unfold z_Clip at h; unfold g_w_eqClip; simp (disch := omega) only [opt_bind_some, cond_t, cond_f, bnot_t, bnot_f, cond_same, ieq_self, beqB_self, c_w_eqKeySS, c_w_eqRootKeyS]
theorem c_w_eqClipS (a : (List dClip)) (h : szL z_Clip a ≤ 1073741824) : g_w_eqClipS a a = some true := by
  have hl := szL_len (s := z_Clip) a
  unfold g_w_eqClipS
  rw [ieq_self, bnot_t, cond_f]
  have := eq_loop (step := L_w_eqClipS_1) (p := fun x => z_Clip x ≤ 1073741824) (fun rec' pre x suf t hp hb => by
    have hb2 := hb; rw [List.length_append, List.length_cons] at hb2; have hp2 := hp; try unfold z_Clip at hp2
    simp (disch := first | omega | assumption) only [L_w_eqClipS_1, ilt_mid, ix_mid, getD_mid, iadd_ok, opt_bind_some, cond_t, cond_f, bnot_t, bnot_f, cond_same, ieq_self, beqB_self, c_w_eqClip]) (fun rec' a t => by simp only [L_w_eqClipS_1, ilt_end, cond_f]) a [] fuel false (fun x hx => Nat.le_trans (szL_mem hx) h) (by simp only [List.nil_append]; omega) (by unfold fuel; omega)
  simp only [List.nil_append, List.length_nil] at this
  rw [show ((0 : Nat) : Int) = 0 from rfl] at this
  rw [this]
  rfl
theorem c_w_eqState (a : dState) : t_w_eqState a a = true := by
  unfold t_w_eqState; simp only [opt_bind_some, cond_t, cond_f, bnot_t, bnot_f, cond_same, ieq_self, beqB_self]
theorem c_w_eqStateS (a : (List dState)) (h : szL z_State a ≤ 1073741824) : g_w_eqStateS a a = some true := by
  have hl := szL_len (s := z_State) a
  unfold g_w_eqStateS
  rw [ieq_self, bnot_t, cond_f]
  have := eq_loop (step := L_w_eqStateS_1) (p := fun x => z_State x ≤ 1073741824) (fun rec' pre x suf t hp hb => by
    have hb2 := hb; rw [List.length_append, List.length_cons] at hb2; have hp2 := hp; try unfold z_State at hp2
    simp (disch := first | omega | assumption) only [L_w_eqStateS_1, ilt_mid, ix_mid, getD_mid, iadd_ok, opt_bind_some, cond_t, cond_f, bnot_t, bnot_f, cond_same, ieq_self, beqB_self, c_w_eqState]) (fun rec' a t => by simp only [L_w_eqStateS_1, ilt_end, cond_f]) a [] fuel false (fun x hx => Nat.le_trans (szL_mem hx) h) (by simp only [List.nil_append]; omega) (by unfold fuel; omega)
  simp only [List.nil_append, List.length_nil] at this
  rw [show ((0 : Nat) : Int) = 0 from rfl] at this
  rw [this]
  rfl
theorem c_w_eqRule (a : dRule) : t_w_eqRule a a = true := by
  unfold t_w_eqRule; simp only [opt_bind_some, cond_t, cond_f, bnot_t, bnot_f, cond_same, ieq_self, beqB_self, c_w_sameFloat]
theorem c_w_eqRuleS (a : (List dRule)) (h : szL z_Rule a ≤ 1073741824) : g_w_eqRuleS a a = some true := by
  have hl := szL_len (s := z_Rule) a
  unfold g_w_eqRuleS
  rw [ieq_self, bnot_t, cond_f]
  have := eq_loop (step := L_w_eqRuleS_1) (p := fun x => z_Rule x ≤ 1073741824) (fun rec' pre x suf t hp hb => by
    have hb2 := hb; rw [List.length_append, List.length_cons] at hb2; have hp2 := hp; try unfold z_Rule at hp2
    simp (disch := first | omega | assumption) only [L_w_eqRuleS_1, ilt_mid, ix_mid, getD_mid, iadd_ok, opt_bind_some, cond_t, cond_f, bnot_t, bnot_f, cond_same, ieq_self, beqB_self, c_w_eqRule]) (fun rec' a t => by simp only [L_w_eqRuleS_1, ilt_end, cond_f]) a [] fuel false (fun x hx => Nat.le_trans (szL_mem hx) h) (by simp only [List.nil_append]; omega) (by unfold fuel; omega)
  simp only [List.nil_append, List.length_nil] at this
  rw [show ((0 : Nat) : Int) = 0 from rfl] at this
  rw [this]
  rfl
theorem c_w_eqMachine (a : dMachine) (h : z_Machine a ≤ 1073741824) : g_w_eqMachine a a = some true := by
  unfold z_Machine at h; unfold g_w_eqMachine; simp (disch := omega) only [opt_bind_some, cond_t, cond_f, bnot_t, bnot_f, cond_same, ieq_self, beqB_self, c_w_eqClipS, c_w_eqStateS, c_w_eqRuleS]
end Go.Fw
