/- What the laws' own functions compute. No condition. -/
import Derived.Test.YtobcfldhacdpiaaGreatBThy
import Derived.Test.YtobcfldhacdpiaaGreatCPure
set_option linter.unusedVariables false
set_option linter.unusedSimpArgs false
namespace Go.Fw
def c_Key (x : dKey) : Nat := 5
def m_Key (x : dKey) (k : Int) : dKey := (k, ((fofInt .f32 (k + 1), (fofInt .f32 (k + 1 + 1), (fofInt .f32 (k + 1 + 1 + 1), (fofInt .f32 (k + 1 + 1 + 1 + 1), ())))), ()))
def z_Key (x : dKey) : Nat := 0
theorem b1_Key (x : dKey) : c_Key x ≤ 16 * (1 + z_Key x) := by  unfold c_Key z_Key; omega
def c_KeyS (x : (List dKey)) : Nat := sumL c_Key x
def m_KeyS (x : (List dKey)) (k : Int) : (List dKey) := mkL m_Key c_Key x k
def z_KeyS (x : (List dKey)) : Nat := szL z_Key x
theorem b_KeyS (x : (List dKey)) : c_KeyS x ≤ 16 * z_KeyS x := sumL_le b1_Key x
theorem b1_KeyS (x : (List dKey)) : c_KeyS x ≤ 16 * (1 + z_KeyS x) := by have := b_KeyS x; omega
theorem c_w_szKeyS (a : (List dKey)) (left : Int) (hok : Ty.ok (.slice tKey) a) (h1 : -1 ≤ left) (h2 : left < 4611686018427387904) : t_w_szKeyS a left = (if (szL z_Key a : Int) ≤ left then left - szL z_Key a else -1) := by
  have hl : a.length ≤ 9223372036854775807 := hok.1
  unfold t_w_szKeyS
  rw [show szL z_Key a = a.length from szL_zero a]
  rw [isub_ok (by omega) (by omega)]
  by_cases hc : (a.length : Int) ≤ left
  · rw [if_pos hc, ilt_f (by omega)]; rfl
  · rw [if_neg hc, ilt_t (by omega)]; rfl
theorem c_w_szKeySS (a : (List (List dKey))) (left : Int) (hok : Ty.ok (.slice (.slice tKey)) a) (h1 : -1 ≤ left) (h2 : left < 4611686018427387904) : g_w_szKeySS a left = some ((if (szL z_KeyS a : Int) ≤ left then left - szL z_KeyS a else -1)) := by
  have hl : a.length ≤ 9223372036854775807 := hok.1
  unfold g_w_szKeySS
  rw [isub_ok (by omega) (by omega), szL_sum]
  by_cases hc : (a.length : Int) ≤ left
  · rw [ilt_f (by omega), cond_f]
    have := sz_loop (step := L_w_szKeySS_1) (s := z_KeyS) (p := fun x => Ty.ok (.slice tKey) x) (fun rec' pre x suf left t hp h0 h3 hb => by
      have hb2 := hb; rw [List.length_append, List.length_cons] at hb2
      have hs : t_w_szKeyS x left = (if (z_KeyS x : Int) ≤ left then left - z_KeyS x else -1) := c_w_szKeyS x left hp (by omega) (by omega)
      simp (disch := omega) only [L_w_szKeySS_1, ilt_mid, ix_mid, getD_mid, iadd_ok, opt_bind_some, cond_t, hs]
      by_cases hd : (z_KeyS x : Int) ≤ left
      · simp only [if_pos hd]; rw [ilt_f (by omega)]; rfl
      · simp only [if_neg hd]; try rfl) (fun rec' a left t => by simp only [L_w_szKeySS_1, ilt_end, cond_f]) a [] fuel (left - a.length) 0 (fun x hx => hok.2 x hx) (by omega) (by omega) (by simp only [List.nil_append]; omega) (by unfold fuel; omega)
    simp only [List.nil_append, List.length_nil] at this
    rw [show ((0 : Nat) : Int) = 0 from rfl] at this
    rw [this]
    by_cases hd : (sumL z_KeyS a : Int) ≤ left - a.length
    · have hd' : ((a.length + sumL z_KeyS a : Nat) : Int) ≤ left := by omega
      simp only [hd, hd', if_true]; simp only [opt_bind_some, cond_f, Int.natCast_add, Int.sub_sub]
    · have hd' : ¬ ((a.length + sumL z_KeyS a : Nat) : Int) ≤ left := by omega
      simp only [hd, hd', if_false]; rfl
  · have hd' : ¬ ((a.length + sumL z_KeyS a : Nat) : Int) ≤ left := by omega
    rw [ilt_t (by omega)]; simp only [hd', if_false]; rfl
theorem c_w_szRootKeyS (a : (List dRootKey)) (left : Int) (hok : Ty.ok (.slice tRootKey) a) (h1 : -1 ≤ left) (h2 : left < 4611686018427387904) : t_w_szRootKeyS a left = (if (szL z_RootKey a : Int) ≤ left then left - szL z_RootKey a else -1) := by
  have hl : a.length ≤ 9223372036854775807 := hok.1
  unfold t_w_szRootKeyS
  rw [show szL z_RootKey a = a.length from szL_zero a]
  rw [isub_ok (by omega) (by omega)]
  by_cases hc : (a.length : Int) ≤ left
  · rw [if_pos hc, ilt_f (by omega)]; rfl
  · rw [if_neg hc, ilt_t (by omega)]; rfl
def c_Clip (x : dClip) : Nat := 2 + sumL c_KeyS x.2.2.1 + sumL c_RootKey x.2.2.2.1
def m_Clip (x : dClip) (k : Int) : dClip := (k, (k + 1, (mkL m_KeyS c_KeyS x.2.2.1 (k + 1 + 1), (mkL m_RootKey c_RootKey x.2.2.2.1 (k + 1 + 1 + (sumL c_KeyS x.2.2.1 : Nat)), ()))))
def z_Clip (x : dClip) : Nat := szL z_KeyS x.2.2.1 + szL z_RootKey x.2.2.2.1
theorem b1_Clip (x : dClip) : c_Clip x ≤ 16 * (1 + z_Clip x) := by have := sumL_le b1_KeyS x.2.2.1; have := sumL_le b1_RootKey x.2.2.2.1; unfold c_Clip z_Clip; omega
theorem c_w_szClip (a : dClip) (left : Int) (hok : Ty.ok tClip a) (h1 : -1 ≤ left) (h2 : left < 4611686018427387904) : g_w_szClip a left = some ((if (z_Clip a : Int) ≤ left then left - z_Clip a else -1)) := by
  unfold z_Clip
  obtain ⟨o0, o1, o2, o3, _⟩ := hok
  unfold g_w_szClip
  try dsimp only
  have e0 : -1 ≤ left := h1
  have f0 := fun (l : Int) h1 h2 => c_w_szKeySS a.2.2.1 l o2 h1 h2
  have f1 := fun (l : Int) h1 h2 => c_w_szRootKeyS a.2.2.2.1 l o3 h1 h2
  have r0 := f0 (left) (by omega) (by omega)
  by_cases c0 : ((szL z_KeyS a.2.2.1 : Nat) : Int) ≤ left
  · rw [if_pos c0] at r0
    simp (disch := omega) only [r0, opt_bind_some, ilt_f, cond_f]
    have r1 := f1 (left - (szL z_KeyS a.2.2.1 : Nat)) (by omega) (by omega)
    by_cases c1 : ((szL z_RootKey a.2.2.2.1 : Nat) : Int) ≤ left - (szL z_KeyS a.2.2.1 : Nat)
    · rw [if_pos c1] at r1
      simp (disch := omega) only [r1, opt_bind_some, ilt_f, cond_f]
      all_goals first | rw [if_pos (by omega)] | skip
      all_goals first | (simp only [opt_bind_some, cond_f, cond_t]; done) | (congr 1; omega) | (simp only [opt_bind_some, cond_f]; congr 1; omega) | omega
    · rw [if_neg c1] at r1
      rw [if_neg (by omega)]
      simp only [r1, opt_bind_some, show ilt (-1) 0 = true from rfl, cond_t]
  · rw [if_neg c0] at r0
    rw [if_neg (by omega)]
    have r1 := f1 (-1) (by omega) (by omega); rw [if_neg (by omega)] at r1
    simp only [r0, opt_bind_some, show ilt (-1) 0 = true from rfl, cond_t]
theorem c_w_szClipS (a : (List dClip)) (left : Int) (hok : Ty.ok (.slice tClip) a) (h1 : -1 ≤ left) (h2 : left < 4611686018427387904) : g_w_szClipS a left = some ((if (szL z_Clip a : Int) ≤ left then left - szL z_Clip a else -1)) := by
  have hl : a.length ≤ 9223372036854775807 := hok.1
  unfold g_w_szClipS
  rw [isub_ok (by omega) (by omega), szL_sum]
  by_cases hc : (a.length : Int) ≤ left
  · rw [ilt_f (by omega), cond_f]
    have := sz_loop (step := L_w_szClipS_1) (s := z_Clip) (p := fun x => Ty.ok tClip x) (fun rec' pre x suf left t hp h0 h3 hb => by
      have hb2 := hb; rw [List.length_append, List.length_cons] at hb2
      have hs : g_w_szClip x left = some (if (z_Clip x : Int) ≤ left then left - z_Clip x else -1) := c_w_szClip x left hp (by omega) (by omega)
      simp (disch := omega) only [L_w_szClipS_1, ilt_mid, ix_mid, getD_mid, iadd_ok, opt_bind_some, cond_t, hs]
      by_cases hd : (z_Clip x : Int) ≤ left
      · simp only [if_pos hd]; rw [ilt_f (by omega)]; rfl
      · simp only [if_neg hd]; try rfl) (fun rec' a left t => by simp only [L_w_szClipS_1, ilt_end, cond_f]) a [] fuel (left - a.length) 0 (fun x hx => hok.2 x hx) (by omega) (by omega) (by simp only [List.nil_append]; omega) (by unfold fuel; omega)
    simp only [List.nil_append, List.length_nil] at this
    rw [show ((0 : Nat) : Int) = 0 from rfl] at this
    rw [this]
    by_cases hd : (sumL z_Clip a : Int) ≤ left - a.length
    · have hd' : ((a.length + sumL z_Clip a : Nat) : Int) ≤ left := by omega
      simp only [hd, hd', if_true]; simp only [opt_bind_some, cond_f, Int.natCast_add, Int.sub_sub]
    · have hd' : ¬ ((a.length + sumL z_Clip a : Nat) : Int) ≤ left := by omega
      simp only [hd, hd', if_false]; rfl
  · have hd' : ¬ ((a.length + sumL z_Clip a : Nat) : Int) ≤ left := by omega
    rw [ilt_t (by omega)]; simp only [hd', if_false]; rfl
theorem c_w_toKey (a : dKey) : t_w_toKey a = a := rfl
theorem c_w_toKeyS (a : (List dKey)) (h : szL z_Key a ≤ 1073741824) : g_w_toKeyS a = some (a) := by
  have hl := szL_len (s := z_Key) a
  unfold g_w_toKeyS
  rw [mkOk_t (by omega) (by omega) (by omega), cond_t]
  have := to_loop (step := L_w_toKeyS_1) (z := zKey) (p := fun x => z_Key x ≤ 1073741824) (fun rec' pre x suf r hp hb => by
    have hb2 := hb; rw [List.length_append, List.length_cons] at hb2; have hp2 := hp; try unfold z_Key at hp2
    simp (disch := first | omega | assumption) only [L_w_toKeyS_1, ilt_mid, ix_mid, getD_mid, set_mid, iadd_ok, opt_bind_some, cond_t, cond_f, bnot_t, bnot_f, cond_same, ieq_self, beqB_self, c_w_toKey]) (fun rec' a => by simp only [L_w_toKeyS_1, ilt_end, cond_f]) a [] fuel (fun x hx => Nat.le_trans (szL_mem hx) h) (by simp only [List.nil_append]; omega) (by unfold fuel; omega)
  simp only [List.nil_append, List.length_nil] at this
  rw [show ((0 : Nat) : Int) = 0 from rfl] at this
  first | rw [this] | (simp only [z_consts] at this ⊢; rw [this])
  rfl
theorem c_w_toKeySS (a : (List (List dKey))) (h : szL z_KeyS a ≤ 1073741824) : g_w_toKeySS a = some (a) := by
  have hl := szL_len (s := z_KeyS) a
  unfold g_w_toKeySS
  rw [mkOk_t (by omega) (by omega) (by omega), cond_t]
  have := to_loop (step := L_w_toKeySS_1) (z := []) (p := fun x => z_KeyS x ≤ 1073741824) (fun rec' pre x suf r hp hb => by
    have hb2 := hb; rw [List.length_append, List.length_cons] at hb2; have hp2 := hp; try unfold z_KeyS at hp2
    simp (disch := first | omega | assumption) only [L_w_toKeySS_1, ilt_mid, ix_mid, getD_mid, set_mid, iadd_ok, opt_bind_some, cond_t, cond_f, bnot_t, bnot_f, cond_same, ieq_self, beqB_self, c_w_toKeyS]) (fun rec' a => by simp only [L_w_toKeySS_1, ilt_end, cond_f]) a [] fuel (fun x hx => Nat.le_trans (szL_mem hx) h) (by simp only [List.nil_append]; omega) (by unfold fuel; omega)
  simp only [List.nil_append, List.length_nil] at this
  rw [show ((0 : Nat) : Int) = 0 from rfl] at this
  first | rw [this] | (simp only [z_consts] at this ⊢; rw [this])
  rfl
theorem c_w_toRootKey (a : dRootKey) : t_w_toRootKey a = a := rfl
theorem c_w_toRootKeyS (a : (List dRootKey)) (h : szL z_RootKey a ≤ 1073741824) : g_w_toRootKeyS a = some (a) := by
  have hl := szL_len (s := z_RootKey) a
  unfold g_w_toRootKeyS
  rw [mkOk_t (by omega) (by omega) (by omega), cond_t]
  have := to_loop (step := L_w_toRootKeyS_1) (z := zRootKey) (p := fun x => z_RootKey x ≤ 1073741824) (fun rec' pre x suf r hp hb => by
    have hb2 := hb; rw [List.length_append, List.length_cons] at hb2; have hp2 := hp; try unfold z_RootKey at hp2
    simp (disch := first | omega | assumption) only [L_w_toRootKeyS_1, ilt_mid, ix_mid, getD_mid, set_mid, iadd_ok, opt_bind_some, cond_t, cond_f, bnot_t, bnot_f, cond_same, ieq_self, beqB_self, c_w_toRootKey]) (fun rec' a => by simp only [L_w_toRootKeyS_1, ilt_end, cond_f]) a [] fuel (fun x hx => Nat.le_trans (szL_mem hx) h) (by simp only [List.nil_append]; omega) (by unfold fuel; omega)
  simp only [List.nil_append, List.length_nil] at this
  rw [show ((0 : Nat) : Int) = 0 from rfl] at this
  first | rw [this] | (simp only [z_consts] at this ⊢; rw [this])
  rfl
theorem c_w_toClip (a : dClip) (h : z_Clip a ≤ 1073741824) : g_w_toClip a = some (a) := by
  unfold z_Clip at h; unfold g_w_toClip; simp (disch := omega) only [opt_bind_some, cond_t, cond_f, bnot_t, bnot_f, cond_same, ieq_self, beqB_self, c_w_toKeySS, c_w_toRootKeyS]
theorem c_w_toClipS (a : (List dClip)) (h : szL z_Clip a ≤ 1073741824) : g_w_toClipS a = some (a) := by
  have hl := szL_len (s := z_Clip) a
  unfold g_w_toClipS
  rw [mkOk_t (by omega) (by omega) (by omega), cond_t]
  have := to_loop (step := L_w_toClipS_1) (z := zClip) (p := fun x => z_Clip x ≤ 1073741824) (fun rec' pre x suf r hp hb => by
    have hb2 := hb; rw [List.length_append, List.length_cons] at hb2; have hp2 := hp; try unfold z_Clip at hp2
    simp (disch := first | omega | assumption) only [L_w_toClipS_1, ilt_mid, ix_mid, getD_mid, set_mid, iadd_ok, opt_bind_some, cond_t, cond_f, bnot_t, bnot_f, cond_same, ieq_self, beqB_self, c_w_toClip]) (fun rec' a => by simp only [L_w_toClipS_1, ilt_end, cond_f]) a [] fuel (fun x hx => Nat.le_trans (szL_mem hx) h) (by simp only [List.nil_append]; omega) (by unfold fuel; omega)
  simp only [List.nil_append, List.length_nil] at this
  rw [show ((0 : Nat) : Int) = 0 from rfl] at this
  first | rw [this] | (simp only [z_consts] at this ⊢; rw [this])
  rfl
theorem c_w_eqKey (a : dKey) : t_w_eqKey a a = true := by
  unfold t_w_eqKey; simp only [opt_bind_some, cond_t, cond_f, bnot_t, bnot_f, cond_same, ieq_self, beqB_self, c_w_eqTurn]
theorem c_w_eqKeyS (a : (List dKey)) (h : szL z_Key a ≤ 1073741824) : g_w_eqKeyS a a = some true := by
  have hl := szL_len (s := z_Key) a
  unfold g_w_eqKeyS
  rw [ieq_self, bnot_t, cond_f]
  have := eq_loop (step := L_w_eqKeyS_1) (p := fun x => z_Key x ≤ 1073741824) (fun rec' pre x suf t hp hb => by
    have hb2 := hb; rw [List.length_append, List.length_cons] at hb2; have hp2 := hp; try unfold z_Key at hp2
    simp (disch := first | omega | assumption) only [L_w_eqKeyS_1, ilt_mid, ix_mid, getD_mid, iadd_ok, opt_bind_some, cond_t, cond_f, bnot_t, bnot_f, cond_same, ieq_self, beqB_self, c_w_eqKey]) (fun rec' a t => by simp only [L_w_eqKeyS_1, ilt_end, cond_f]) a [] fuel false (fun x hx => Nat.le_trans (szL_mem hx) h) (by simp only [List.nil_append]; omega) (by unfold fuel; omega)
  simp only [List.nil_append, List.length_nil] at this
  rw [show ((0 : Nat) : Int) = 0 from rfl] at this
  rw [this]
  rfl
theorem c_w_eqKeySS (a : (List (List dKey))) (h : szL z_KeyS a ≤ 1073741824) : g_w_eqKeySS a a = some true := by
  have hl := szL_len (s := z_KeyS) a
  unfold g_w_eqKeySS
  rw [ieq_self, bnot_t, cond_f]
  have := eq_loop (step := L_w_eqKeySS_1) (p := fun x => z_KeyS x ≤ 1073741824) (fun rec' pre x suf t hp hb => by
    have hb2 := hb; rw [List.length_append, List.length_cons] at hb2; have hp2 := hp; try unfold z_KeyS at hp2
    simp (disch := first | omega | assumption) only [L_w_eqKeySS_1, ilt_mid, ix_mid, getD_mid, iadd_ok, opt_bind_some, cond_t, cond_f, bnot_t, bnot_f, cond_same, ieq_self, beqB_self, c_w_eqKeyS]) (fun rec' a t => by simp only [L_w_eqKeySS_1, ilt_end, cond_f]) a [] fuel false (fun x hx => Nat.le_trans (szL_mem hx) h) (by simp only [List.nil_append]; omega) (by unfold fuel; omega)
  simp only [List.nil_append, List.length_nil] at this
  rw [show ((0 : Nat) : Int) = 0 from rfl] at this
  rw [this]
  rfl
theorem c_w_eqRootKey (a : dRootKey) : t_w_eqRootKey a a = true := by
  unfold t_w_eqRootKey; simp only [opt_bind_some, cond_t, cond_f, bnot_t, bnot_f, cond_same, ieq_self, beqB_self, c_w_eqVector]
theorem c_w_eqRootKeyS (a : (List dRootKey)) (h : szL z_RootKey a ≤ 1073741824) : g_w_eqRootKeyS a a = some true := by
  have hl := szL_len (s := z_RootKey) a
  unfold g_w_eqRootKeyS
  rw [ieq_self, bnot_t, cond_f]
  have := eq_loop (step := L_w_eqRootKeyS_1) (p := fun x => z_RootKey x ≤ 1073741824) (fun rec' pre x suf t hp hb => by
    have hb2 := hb; rw [List.length_append, List.length_cons] at hb2; have hp2 := hp; try unfold z_RootKey at hp2
    simp (disch := first | omega | assumption) only [L_w_eqRootKeyS_1, ilt_mid, ix_mid, getD_mid, iadd_ok, opt_bind_some, cond_t, cond_f, bnot_t, bnot_f, cond_same, ieq_self, beqB_self, c_w_eqRootKey]) (fun rec' a t => by simp only [L_w_eqRootKeyS_1, ilt_end, cond_f]) a [] fuel false (fun x hx => Nat.le_trans (szL_mem hx) h) (by simp only [List.nil_append]; omega) (by unfold fuel; omega)
  simp only [List.nil_append, List.length_nil] at this
  rw [show ((0 : Nat) : Int) = 0 from rfl] at this
  rw [this]
  rfl
theorem c_w_eqClip (a : dClip) (h : z_Clip a ≤ 1073741824) : g_w_eqClip a a = some true := by
  unfold z_Clip at h; unfold g_w_eqClip; simp (disch := omega) only [opt_bind_some, cond_t, cond_f, bnot_t, bnot_f, cond_same, ieq_self, beqB_self, c_w_eqKeySS, c_w_eqRootKeyS]
theorem c_w_eqClipS (a : (List dClip)) (h : szL z_Clip a ≤ 1073741824) : g_w_eqClipS a a = some true := by
  have hl := szL_len (s := z_Clip) a
  unfold g_w_eqClipS
  rw [ieq_self, bnot_t, cond_f]
  have := eq_loop (step := L_w_eqClipS_1) (p := fun x => z_Clip x ≤ 1073741824) (fun rec' pre x suf t hp hb => by
    have hb2 := hb; rw [List.length_append, List.length_cons] at hb2; have hp2 := hp; try unfold z_Clip at hp2
    simp (disch := first | omega | assumption) only [L_w_eqClipS_1, ilt_mid, ix_mid, getD_mid, iadd_ok, opt_bind_some, cond_t, cond_f, bnot_t, bnot_f, cond_same, ieq_self, beqB_self, c_w_eqClip]) (fun rec' a t => by simp only [L_w_eqClipS_1, ilt_end, cond_f]) a [] fuel false (fun x hx => Nat.le_trans (szL_mem hx) h) (by simp only [List.nil_append]; omega) (by unfold fuel; omega)
  simp only [List.nil_append, List.length_nil] at this
  rw [show ((0 : Nat) : Int) = 0 from rfl] at this
  rw [this]
  rfl
end Go.Fw
