/- What the laws' own functions compute. No condition. -/
import Derived.Test.YtmfmdoppjcaedaaFwE
import Derived.Test.YtmfmdoppjcaedaaDPure
set_option linter.unusedVariables false
set_option linter.unusedSimpArgs false
namespace Go.Fw
def c_I64 (_ : Int) : Nat := 1
def m_I64 (_ : Int) (k : Int) : Int := k
def z_I64 (_ : Int) : Nat := 0
theorem b1_I64 (x : Int) : c_I64 x ≤ 16 * (1 + z_I64 x) := by unfold c_I64 z_I64; omega
def c_F32 (_ : Nat) : Nat := 1
def m_F32 (_ : Nat) (k : Int) : Nat := fofInt .f32 k
def z_F32 (_ : Nat) : Nat := 0
theorem b1_F32 (x : Nat) : c_F32 x ≤ 16 * (1 + z_F32 x) := by unfold c_F32 z_F32; omega
def c_RootKey (x : dRootKey) : Nat := 4
def m_RootKey (x : dRootKey) (k : Int) : dRootKey := (k, ((fofInt .f32 (k + 1), (fofInt .f32 (k + 1 + 1), (fofInt .f32 (k + 1 + 1 + 1), ()))), ()))
def z_RootKey (x : dRootKey) : Nat := 0
theorem b1_RootKey (x : dRootKey) : c_RootKey x ≤ 16 * (1 + z_RootKey x) := by  unfold c_RootKey z_RootKey; omega
theorem c_w_szBoneS (a : (List dRootKey)) (left : Int) (hok : Ty.ok (.slice tRootKey) a) (h1 : -1 ≤ left) (h2 : left < 4611686018427387904) : t_w_szBoneS a left = (if (szL z_RootKey a : Int) ≤ left then left - szL z_RootKey a else -1) := by
  have hl : a.length ≤ 9223372036854775807 := hok.1
  unfold t_w_szBoneS
  rw [show szL z_RootKey a = a.length from szL_zero a]
  rw [isub_ok (by omega) (by omega)]
  by_cases hc : (a.length : Int) ≤ left
  · rw [if_pos hc, ilt_f (by omega)]; rfl
  · rw [if_neg hc, ilt_t (by omega)]; rfl
def z_Skel (x : dSkel) : Nat := szL z_RootKey x.1
def cv_Skel (x : dSkel) : Nat := sumL c_RootKey x.1
def mv_Skel (x : dSkel) (k : Int) : dSkel := (mkL m_RootKey c_RootKey x.1 (k), ())
theorem bv_Skel (x : dSkel) : cv_Skel x ≤ 16 * z_Skel x := by have := sumL_le b1_RootKey x.1; unfold cv_Skel z_Skel; omega
theorem c_w_szSkeleton (a : dSkel) (left : Int) (hok : Ty.ok tSkel a) (h1 : -1 ≤ left) (h2 : left < 4611686018427387904) : t_w_szSkeleton a left = (if (z_Skel a : Int) ≤ left then left - z_Skel a else -1) := by
  unfold z_Skel
  obtain ⟨o0, _⟩ := hok
  unfold t_w_szSkeleton
  try dsimp only
  have e0 : -1 ≤ left := h1
  have f0 := fun (l : Int) h1 h2 => c_w_szBoneS a.1 l o0 h1 h2
  have r0 := f0 (left) (by omega) (by omega)
  by_cases c0 : ((szL z_RootKey a.1 : Nat) : Int) ≤ left
  · rw [if_pos c0] at r0
    simp (disch := omega) only [r0, opt_bind_some, ilt_f, cond_f]
    all_goals first | rw [if_pos (by omega)] | skip
    all_goals first | (simp only [opt_bind_some, cond_f, cond_t]; done) | (congr 1; omega) | (simp only [opt_bind_some, cond_f]; congr 1; omega) | omega
  · rw [if_neg c0] at r0
    rw [if_neg (by omega)]
    simp only [r0, opt_bind_some, show ilt (-1) 0 = true from rfl, cond_t]
theorem c_w_szInt64S (a : (List Int)) (left : Int) (hok : Ty.ok (.slice (.int .i64)) a) (h1 : -1 ≤ left) (h2 : left < 4611686018427387904) : t_w_szInt64S a left = (if (szL z_I64 a : Int) ≤ left then left - szL z_I64 a else -1) := by
  have hl : a.length ≤ 9223372036854775807 := hok.1
  unfold t_w_szInt64S
  rw [show szL z_I64 a = a.length from szL_zero a]
  rw [isub_ok (by omega) (by omega)]
  by_cases hc : (a.length : Int) ≤ left
  · rw [if_pos hc, ilt_f (by omega)]; rfl
  · rw [if_neg hc, ilt_t (by omega)]; rfl
theorem c_w_szFloat32S (a : (List Nat)) (left : Int) (hok : Ty.ok (.slice (.flt .f32)) a) (h1 : -1 ≤ left) (h2 : left < 4611686018427387904) : t_w_szFloat32S a left = (if (szL z_F32 a : Int) ≤ left then left - szL z_F32 a else -1) := by
  have hl : a.length ≤ 9223372036854775807 := hok.1
  unfold t_w_szFloat32S
  rw [show szL z_F32 a = a.length from szL_zero a]
  rw [isub_ok (by omega) (by omega)]
  by_cases hc : (a.length : Int) ≤ left
  · rw [if_pos hc, ilt_f (by omega)]; rfl
  · rw [if_neg hc, ilt_t (by omega)]; rfl
def c_SkinPoint (x : dSkinPoint) : Nat := 3 + sumL c_I64 x.2.1 + sumL c_F32 x.2.2.1
def m_SkinPoint (x : dSkinPoint) (k : Int) : dSkinPoint := ((fofInt .f32 (k), (fofInt .f32 (k + 1), (fofInt .f32 (k + 1 + 1), ()))), (mkL m_I64 c_I64 x.2.1 (k + 1 + 1 + 1), (mkL m_F32 c_F32 x.2.2.1 (k + 1 + 1 + 1 + (sumL c_I64 x.2.1 : Nat)), ())))
def z_SkinPoint (x : dSkinPoint) : Nat := szL z_I64 x.2.1 + szL z_F32 x.2.2.1
theorem b1_SkinPoint (x : dSkinPoint) : c_SkinPoint x ≤ 16 * (1 + z_SkinPoint x) := by have := sumL_le b1_I64 x.2.1; have := sumL_le b1_F32 x.2.2.1; unfold c_SkinPoint z_SkinPoint; omega
theorem c_w_szSkinPoint (a : dSkinPoint) (left : Int) (hok : Ty.ok tSkinPoint a) (h1 : -1 ≤ left) (h2 : left < 4611686018427387904) : t_w_szSkinPoint a left = (if (z_SkinPoint a : Int) ≤ left then left - z_SkinPoint a else -1) := by
  unfold z_SkinPoint
  obtain ⟨o0, o1, o2, _⟩ := hok
  unfold t_w_szSkinPoint
  try dsimp only
  have e0 : -1 ≤ left := h1
  have f0 := fun (l : Int) h1 h2 => c_w_szInt64S a.2.1 l o1 h1 h2
  have f1 := fun (l : Int) h1 h2 => c_w_szFloat32S a.2.2.1 l o2 h1 h2
  have r0 := f0 (left) (by omega) (by omega)
  by_cases c0 : ((szL z_I64 a.2.1 : Nat) : Int) ≤ left
  · rw [if_pos c0] at r0
    simp (disch := omega) only [r0, opt_bind_some, ilt_f, cond_f]
    have r1 := f1 (left - (szL z_I64 a.2.1 : Nat)) (by omega) (by omega)
    by_cases c1 : ((szL z_F32 a.2.2.1 : Nat) : Int) ≤ left - (szL z_I64 a.2.1 : Nat)
    · rw [if_pos c1] at r1
      simp (disch := omega) only [r1, opt_bind_some, ilt_f, cond_f]
      all_goals first | rw [if_pos (by omega)] | skip
      all_goals first | (simp only [opt_bind_some, cond_f, cond_t]; done) | (congr 1; omega) | (simp only [opt_bind_some, cond_f]; congr 1; omega) | omega
    · rw [if_neg c1] at r1
      rw [if_neg (by omega)]
      simp only [r1, opt_bind_some, show ilt (-1) 0 = true from rfl, cond_t]
  · rw [if_neg c0] at r0
    rw [if_neg (by omega)]
    have r1 := f1 (-1) (by omega) (by omega); rw [if_neg (by omega)] at r1
    simp only [r0, opt_bind_some, show ilt (-1) 0 = true from rfl, cond_t]
theorem c_w_szSkinPointS (a : (List dSkinPoint)) (left : Int) (hok : Ty.ok (.slice tSkinPoint) a) (h1 : -1 ≤ left) (h2 : left < 4611686018427387904) : g_w_szSkinPointS a left = some ((if (szL z_SkinPoint a : Int) ≤ left then left - szL z_SkinPoint a else -1)) := by
  have hl : a.length ≤ 9223372036854775807 := hok.1
  unfold g_w_szSkinPointS
  rw [isub_ok (by omega) (by omega), szL_sum]
  by_cases hc : (a.length : Int) ≤ left
  · rw [ilt_f (by omega), cond_f]
    have := sz_loop (step := L_w_szSkinPointS_1) (s := z_SkinPoint) (p := fun x => Ty.ok tSkinPoint x) (fun rec' pre x suf left t hp h0 h3 hb => by
      have hb2 := hb; rw [List.length_append, List.length_cons] at hb2
      have hs : t_w_szSkinPoint x left = (if (z_SkinPoint x : Int) ≤ left then left - z_SkinPoint x else -1) := c_w_szSkinPoint x left hp (by omega) (by omega)
      simp (disch := omega) only [L_w_szSkinPointS_1, ilt_mid, ix_mid, getD_mid, iadd_ok, opt_bind_some, cond_t, hs]
      by_cases hd : (z_SkinPoint x : Int) ≤ left
      · simp only [if_pos hd]; rw [ilt_f (by omega)]; rfl
      · simp only [if_neg hd]; try rfl) (fun rec' a left t => by simp only [L_w_szSkinPointS_1, ilt_end, cond_f]) a [] fuel (left - a.length) 0 (fun x hx => hok.2 x hx) (by omega) (by omega) (by simp only [List.nil_append]; omega) (by unfold fuel; omega)
    simp only [List.nil_append, List.length_nil] at this
    rw [show ((0 : Nat) : Int) = 0 from rfl] at this
    rw [this]
    by_cases hd : (sumL z_SkinPoint a : Int) ≤ left - a.length
    · have hd' : ((a.length + sumL z_SkinPoint a : Nat) : Int) ≤ left := by omega
      simp only [hd, hd', if_true]; simp only [opt_bind_some, cond_f, Int.natCast_add, Int.sub_sub]
    · have hd' : ¬ ((a.length + sumL z_SkinPoint a : Nat) : Int) ≤ left := by omega
      simp only [hd, hd', if_false]; rfl
  · have hd' : ¬ ((a.length + sumL z_SkinPoint a : Nat) : Int) ≤ left := by omega
    rw [ilt_t (by omega)]; simp only [hd', if_false]; rfl
theorem c_w_toVector (a : dVec) : t_w_toVector a = a := rfl
theorem c_w_toBone (a : dRootKey) : t_w_toBone a = a := rfl
theorem c_w_toBoneS (a : (List dRootKey)) (h : szL z_RootKey a ≤ 1073741824) : g_w_toBoneS a = some (a) := by
  have hl := szL_len (s := z_RootKey) a
  unfold g_w_toBoneS
  rw [mkOk_t (by omega) (by omega) (by omega), cond_t]
  have := to_loop (step := L_w_toBoneS_1) (z := zRootKey) (p := fun x => z_RootKey x ≤ 1073741824) (fun rec' pre x suf r hp hb => by
    have hb2 := hb; rw [List.length_append, List.length_cons] at hb2; have hp2 := hp; try unfold z_RootKey at hp2
    simp (disch := first | omega | assumption) only [L_w_toBoneS_1, ilt_mid, ix_mid, getD_mid, set_mid, iadd_ok, opt_bind_some, cond_t, cond_f, bnot_t, bnot_f, cond_same, ieq_self, beqB_self, c_w_toBone]) (fun rec' a => by simp only [L_w_toBoneS_1, ilt_end, cond_f]) a [] fuel (fun x hx => Nat.le_trans (szL_mem hx) h) (by simp only [List.nil_append]; omega) (by unfold fuel; omega)
  simp only [List.nil_append, List.length_nil] at this
  rw [show ((0 : Nat) : Int) = 0 from rfl] at this
  first | rw [this] | (simp only [z_consts] at this ⊢; rw [this])
  rfl
theorem c_w_toSkeleton (a : dSkel) (h : z_Skel a ≤ 1073741824) : g_w_toSkeleton a = some (a) := by
  unfold z_Skel at h; unfold g_w_toSkeleton; simp (disch := omega) only [opt_bind_some, cond_t, cond_f, bnot_t, bnot_f, cond_same, ieq_self, beqB_self, c_w_toBoneS]
theorem c_w_toInt64S (a : (List Int)) (h : szL z_I64 a ≤ 1073741824) : g_w_toInt64S a = some (a) := by
  have hl := szL_len (s := z_I64) a
  unfold g_w_toInt64S
  rw [mkOk_t (by omega) (by omega) (by omega), cond_t]
  have := to_loop (step := L_w_toInt64S_1) (z := (0 : Int)) (p := fun x => z_I64 x ≤ 1073741824) (fun rec' pre x suf r hp hb => by
    have hb2 := hb; rw [List.length_append, List.length_cons] at hb2; have hp2 := hp; try unfold z_I64 at hp2
    simp (disch := first | omega | assumption) only [L_w_toInt64S_1, ilt_mid, ix_mid, getD_mid, set_mid, iadd_ok, opt_bind_some, cond_t, cond_f, bnot_t, bnot_f, cond_same, ieq_self, beqB_self]) (fun rec' a => by simp only [L_w_toInt64S_1, ilt_end, cond_f]) a [] fuel (fun x hx => Nat.le_trans (szL_mem hx) h) (by simp only [List.nil_append]; omega) (by unfold fuel; omega)
  simp only [List.nil_append, List.length_nil] at this
  rw [show ((0 : Nat) : Int) = 0 from rfl] at this
  first | rw [this] | (simp only [z_consts] at this ⊢; rw [this])
  rfl
theorem c_w_toFloat32S (a : (List Nat)) (h : szL z_F32 a ≤ 1073741824) : g_w_toFloat32S a = some (a) := by
  have hl := szL_len (s := z_F32) a
  unfold g_w_toFloat32S
  rw [mkOk_t (by omega) (by omega) (by omega), cond_t]
  have := to_loop (step := L_w_toFloat32S_1) (z := (0 : Nat)) (p := fun x => z_F32 x ≤ 1073741824) (fun rec' pre x suf r hp hb => by
    have hb2 := hb; rw [List.length_append, List.length_cons] at hb2; have hp2 := hp; try unfold z_F32 at hp2
    simp (disch := first | omega | assumption) only [L_w_toFloat32S_1, ilt_mid, ix_mid, getD_mid, set_mid, iadd_ok, opt_bind_some, cond_t, cond_f, bnot_t, bnot_f, cond_same, ieq_self, beqB_self]) (fun rec' a => by simp only [L_w_toFloat32S_1, ilt_end, cond_f]) a [] fuel (fun x hx => Nat.le_trans (szL_mem hx) h) (by simp only [List.nil_append]; omega) (by unfold fuel; omega)
  simp only [List.nil_append, List.length_nil] at this
  rw [show ((0 : Nat) : Int) = 0 from rfl] at this
  first | rw [this] | (simp only [z_consts] at this ⊢; rw [this])
  rfl
theorem c_w_toSkinPoint (a : dSkinPoint) (h : z_SkinPoint a ≤ 1073741824) : g_w_toSkinPoint a = some (a) := by
  unfold z_SkinPoint at h; unfold g_w_toSkinPoint; simp (disch := omega) only [opt_bind_some, cond_t, cond_f, bnot_t, bnot_f, cond_same, ieq_self, beqB_self, c_w_toVector, c_w_toInt64S, c_w_toFloat32S]
theorem c_w_toSkinPointS (a : (List dSkinPoint)) (h : szL z_SkinPoint a ≤ 1073741824) : g_w_toSkinPointS a = some (a) := by
  have hl := szL_len (s := z_SkinPoint) a
  unfold g_w_toSkinPointS
  rw [mkOk_t (by omega) (by omega) (by omega), cond_t]
  have := to_loop (step := L_w_toSkinPointS_1) (z := zSkinPoint) (p := fun x => z_SkinPoint x ≤ 1073741824) (fun rec' pre x suf r hp hb => by
    have hb2 := hb; rw [List.length_append, List.length_cons] at hb2; have hp2 := hp; try unfold z_SkinPoint at hp2
    simp (disch := first | omega | assumption) only [L_w_toSkinPointS_1, ilt_mid, ix_mid, getD_mid, set_mid, iadd_ok, opt_bind_some, cond_t, cond_f, bnot_t, bnot_f, cond_same, ieq_self, beqB_self, c_w_toSkinPoint]) (fun rec' a => by simp only [L_w_toSkinPointS_1, ilt_end, cond_f]) a [] fuel (fun x hx => Nat.le_trans (szL_mem hx) h) (by simp only [List.nil_append]; omega) (by unfold fuel; omega)
  simp only [List.nil_append, List.length_nil] at this
  rw [show ((0 : Nat) : Int) = 0 from rfl] at this
  first | rw [this] | (simp only [z_consts] at this ⊢; rw [this])
  rfl
theorem c_w_eqInt64S (a : (List Int)) (h : szL z_I64 a ≤ 1073741824) : g_w_eqInt64S a a = some true := by
  have hl := szL_len (s := z_I64) a
  unfold g_w_eqInt64S
  rw [ieq_self, bnot_t, cond_f]
  have := eq_loop (step := L_w_eqInt64S_1) (p := fun x => z_I64 x ≤ 1073741824) (fun rec' pre x suf t hp hb => by
    have hb2 := hb; rw [List.length_append, List.length_cons] at hb2; have hp2 := hp; try unfold z_I64 at hp2
    simp (disch := first | omega | assumption) only [L_w_eqInt64S_1, ilt_mid, ix_mid, getD_mid, iadd_ok, opt_bind_some, cond_t, cond_f, bnot_t, bnot_f, cond_same, ieq_self, beqB_self]) (fun rec' a t => by simp only [L_w_eqInt64S_1, ilt_end, cond_f]) a [] fuel false (fun x hx => Nat.le_trans (szL_mem hx) h) (by simp only [List.nil_append]; omega) (by unfold fuel; omega)
  simp only [List.nil_append, List.length_nil] at this
  rw [show ((0 : Nat) : Int) = 0 from rfl] at this
  rw [this]
  rfl
theorem c_w_sameFloat (a : Nat) : t_w_sameFloat a a = true := by
  unfold t_w_sameFloat; cases feq .f64 a a <;> cases feq .f64 a 0 <;> simp [beqB_self]
theorem c_w_eqVector (a : dVec) : t_w_eqVector a a = true := by
  unfold t_w_eqVector; simp only [opt_bind_some, cond_t, cond_f, bnot_t, bnot_f, cond_same, ieq_self, beqB_self, c_w_sameFloat]
theorem c_w_eqBone (a : dRootKey) : t_w_eqBone a a = true := by
  unfold t_w_eqBone; simp only [opt_bind_some, cond_t, cond_f, bnot_t, bnot_f, cond_same, ieq_self, beqB_self, c_w_eqVector]
theorem c_w_eqBoneS (a : (List dRootKey)) (h : szL z_RootKey a ≤ 1073741824) : g_w_eqBoneS a a = some true := by
  have hl := szL_len (s := z_RootKey) a
  unfold g_w_eqBoneS
  rw [ieq_self, bnot_t, cond_f]
  have := eq_loop (step := L_w_eqBoneS_1) (p := fun x => z_RootKey x ≤ 1073741824) (fun rec' pre x suf t hp hb => by
    have hb2 := hb; rw [List.length_append, List.length_cons] at hb2; have hp2 := hp; try unfold z_RootKey at hp2
    simp (disch := first | omega | assumption) only [L_w_eqBoneS_1, ilt_mid, ix_mid, getD_mid, iadd_ok, opt_bind_some, cond_t, cond_f, bnot_t, bnot_f, cond_same, ieq_self, beqB_self, c_w_eqBone]) (fun rec' a t => by simp only [L_w_eqBoneS_1, ilt_end, cond_f]) a [] fuel false (fun x hx => Nat.le_trans (szL_mem hx) h) (by simp only [List.nil_append]; omega) (by unfold fuel; omega)
  simp only [List.nil_append, List.length_nil] at this
  rw [show ((0 : Nat) : Int) = 0 from rfl] at this
  rw [this]
  rfl
theorem c_w_eqSkeleton (a : dSkel) (h : z_Skel a ≤ 1073741824) : g_w_eqSkeleton a a = some true := by
  unfold z_Skel at h; unfold g_w_eqSkeleton; simp (disch := omega) only [opt_bind_some, cond_t, cond_f, bnot_t, bnot_f, cond_same, ieq_self, beqB_self, c_w_eqBoneS]
theorem c_w_eqFloat32S (a : (List Nat)) (h : szL z_F32 a ≤ 1073741824) : g_w_eqFloat32S a a = some true := by
  have hl := szL_len (s := z_F32) a
  unfold g_w_eqFloat32S
  rw [ieq_self, bnot_t, cond_f]
  have := eq_loop (step := L_w_eqFloat32S_1) (p := fun x => z_F32 x ≤ 1073741824) (fun rec' pre x suf t hp hb => by
    have hb2 := hb; rw [List.length_append, List.length_cons] at hb2; have hp2 := hp; try unfold z_F32 at hp2
    simp (disch := first | omega | assumption) only [L_w_eqFloat32S_1, ilt_mid, ix_mid, getD_mid, iadd_ok, opt_bind_some, cond_t, cond_f, bnot_t, bnot_f, cond_same, ieq_self, beqB_self, c_w_sameFloat]) (fun rec' a t => by simp only [L_w_eqFloat32S_1, ilt_end, cond_f]) a [] fuel false (fun x hx => Nat.le_trans (szL_mem hx) h) (by simp only [List.nil_append]; omega) (by unfold fuel; omega)
  simp only [List.nil_append, List.length_nil] at this
  rw [show ((0 : Nat) : Int) = 0 from rfl] at this
  rw [this]
  rfl
theorem c_w_eqSkinPoint (a : dSkinPoint) (h : z_SkinPoint a ≤ 1073741824) : g_w_eqSkinPoint a a = some true := by
  unfold z_SkinPoint at h; unfold g_w_eqSkinPoint; simp (disch := omega) only [opt_bind_some, cond_t, cond_f, bnot_t, bnot_f, cond_same, ieq_self, beqB_self, c_w_eqVector, c_w_eqInt64S, c_w_eqFloat32S]
theorem c_w_eqSkinPointS (a : (List dSkinPoint)) (h : szL z_SkinPoint a ≤ 1073741824) : g_w_eqSkinPointS a a = some true := by
  have hl := szL_len (s := z_SkinPoint) a
  unfold g_w_eqSkinPointS
  rw [ieq_self, bnot_t, cond_f]
  have := eq_loop (step := L_w_eqSkinPointS_1) (p := fun x => z_SkinPoint x ≤ 1073741824) (fun rec' pre x suf t hp hb => by
    have hb2 := hb; rw [List.length_append, List.length_cons] at hb2; have hp2 := hp; try unfold z_SkinPoint at hp2
    simp (disch := first | omega | assumption) only [L_w_eqSkinPointS_1, ilt_mid, ix_mid, getD_mid, iadd_ok, opt_bind_some, cond_t, cond_f, bnot_t, bnot_f, cond_same, ieq_self, beqB_self, c_w_eqSkinPoint]) (fun rec' a t => by simp only [L_w_eqSkinPointS_1, ilt_end, cond_f]) a [] fuel false (fun x hx => Nat.le_trans (szL_mem hx) h) (by simp only [List.nil_append]; omega) (by unfold fuel; omega)
  simp only [List.nil_append, List.length_nil] at this
  rw [show ((0 : Nat) : Int) = 0 from rfl] at this
  rw [this]
  rfl
theorem c_w_markBoneS (a : (List dRootKey)) (k : Int) (h : szL z_RootKey a ≤ 1073741824) (h0 : 0 ≤ k) (hk : k + sumL c_RootKey a < 4611686018427387904) : g_w_markBoneS a k = some (k + sumL c_RootKey a, (mkL m_RootKey c_RootKey a k, (k, ()))) := by
  have hl := szL_len (s := z_RootKey) a
  unfold g_w_markBoneS
  have := mark_loop (step := L_w_markBoneS_1) (m := m_RootKey) (c := c_RootKey) (p := fun x => z_RootKey x ≤ 1073741824) (fun rec' pre x suf k hp h0 hk hb => by
    have hb2 := hb; rw [List.length_append, List.length_cons] at hb2; have hk2 := hk; have hp2 := hp; simp only [c_RootKey, z_RootKey, Int.natCast_add] at hk2 hp2
    simp (disch := omega) only [L_w_markBoneS_1, ilt_mid, ix_mid, getD_mid, set_mid, iadd_ok, opt_bind_some, cond_t, cond_f, bnot_t, bnot_f, cond_same, ieq_self, beqB_self]
    simp only [c_RootKey, m_RootKey, z_RootKey, Int.natCast_add, Int.cast_ofNat_Int, Int.add_assoc, Int.reduceAdd, Int.natCast_one]) (fun rec' a k => by simp only [L_w_markBoneS_1, ilt_end, cond_f]) a [] fuel k (fun x hx => Nat.le_trans (szL_mem hx) h) h0 hk (by simp only [List.nil_append]; omega) (by unfold fuel; omega)
  simp only [List.nil_append, List.length_nil] at this
  rw [show ((0 : Nat) : Int) = 0 from rfl] at this
  rw [this]
  rfl
theorem c_w_markSkeleton (a : dSkel) (k : Int) (h : z_Skel a ≤ 1073741824) (h0 : 0 ≤ k) (hk : k + cv_Skel a < 4611686018427387904) : g_w_markSkeleton a k = some (k + cv_Skel a, (mv_Skel a k, (k, ()))) := by
  unfold z_Skel at h; unfold cv_Skel at hk; unfold g_w_markSkeleton
  try simp only [Int.natCast_add] at hk
  simp (disch := omega) only [opt_bind_some, c_w_markBoneS, cv_Skel, mv_Skel, Int.natCast_add, Int.add_assoc]
theorem c_w_markInt64S (a : (List Int)) (k : Int) (h : szL z_I64 a ≤ 1073741824) (h0 : 0 ≤ k) (hk : k + sumL c_I64 a < 4611686018427387904) : g_w_markInt64S a k = some (k + sumL c_I64 a, (mkL m_I64 c_I64 a k, (k, ()))) := by
  have hl := szL_len (s := z_I64) a
  unfold g_w_markInt64S
  have := mark_loop (step := L_w_markInt64S_1) (m := m_I64) (c := c_I64) (p := fun x => z_I64 x ≤ 1073741824) (fun rec' pre x suf k hp h0 hk hb => by
    have hb2 := hb; rw [List.length_append, List.length_cons] at hb2; have hk2 := hk; simp only [c_I64] at hk2
    simp (disch := omega) only [L_w_markInt64S_1, ilt_mid, ix_mid, getD_mid, set_mid, iadd_ok, opt_bind_some, cond_t, cond_f, bnot_t, bnot_f, cond_same, ieq_self, beqB_self]
    simp only [c_I64, m_I64, z_I64, Int.natCast_add, Int.cast_ofNat_Int, Int.add_assoc, Int.reduceAdd, Int.natCast_one]) (fun rec' a k => by simp only [L_w_markInt64S_1, ilt_end, cond_f]) a [] fuel k (fun x hx => Nat.le_trans (szL_mem hx) h) h0 hk (by simp only [List.nil_append]; omega) (by unfold fuel; omega)
  simp only [List.nil_append, List.length_nil] at this
  rw [show ((0 : Nat) : Int) = 0 from rfl] at this
  rw [this]
  rfl
theorem c_w_markFloat32S (a : (List Nat)) (k : Int) (h : szL z_F32 a ≤ 1073741824) (h0 : 0 ≤ k) (hk : k + sumL c_F32 a < 4611686018427387904) : g_w_markFloat32S a k = some (k + sumL c_F32 a, (mkL m_F32 c_F32 a k, (k, ()))) := by
  have hl := szL_len (s := z_F32) a
  unfold g_w_markFloat32S
  have := mark_loop (step := L_w_markFloat32S_1) (m := m_F32) (c := c_F32) (p := fun x => z_F32 x ≤ 1073741824) (fun rec' pre x suf k hp h0 hk hb => by
    have hb2 := hb; rw [List.length_append, List.length_cons] at hb2; have hk2 := hk; simp only [c_F32] at hk2
    simp (disch := omega) only [L_w_markFloat32S_1, ilt_mid, ix_mid, getD_mid, set_mid, iadd_ok, opt_bind_some, cond_t, cond_f, bnot_t, bnot_f, cond_same, ieq_self, beqB_self]
    simp only [c_F32, m_F32, z_F32, Int.natCast_add, Int.cast_ofNat_Int, Int.add_assoc, Int.reduceAdd, Int.natCast_one]) (fun rec' a k => by simp only [L_w_markFloat32S_1, ilt_end, cond_f]) a [] fuel k (fun x hx => Nat.le_trans (szL_mem hx) h) h0 hk (by simp only [List.nil_append]; omega) (by unfold fuel; omega)
  simp only [List.nil_append, List.length_nil] at this
  rw [show ((0 : Nat) : Int) = 0 from rfl] at this
  rw [this]
  rfl
theorem c_w_markSkinPointS (a : (List dSkinPoint)) (k : Int) (h : szL z_SkinPoint a ≤ 1073741824) (h0 : 0 ≤ k) (hk : k + sumL c_SkinPoint a < 4611686018427387904) : g_w_markSkinPointS a k = some (k + sumL c_SkinPoint a, (mkL m_SkinPoint c_SkinPoint a k, (k, ()))) := by
  have hl := szL_len (s := z_SkinPoint) a
  unfold g_w_markSkinPointS
  have := mark_loop (step := L_w_markSkinPointS_1) (m := m_SkinPoint) (c := c_SkinPoint) (p := fun x => z_SkinPoint x ≤ 1073741824) (fun rec' pre x suf k hp h0 hk hb => by
    have hb2 := hb; rw [List.length_append, List.length_cons] at hb2; have hk2 := hk; have hp2 := hp; simp only [c_SkinPoint, z_SkinPoint, Int.natCast_add] at hk2 hp2
    simp (disch := omega) only [L_w_markSkinPointS_1, ilt_mid, ix_mid, getD_mid, set_mid, iadd_ok, opt_bind_some, cond_t, cond_f, bnot_t, bnot_f, cond_same, ieq_self, beqB_self, c_w_markInt64S, c_w_markFloat32S]
    simp only [c_SkinPoint, m_SkinPoint, z_SkinPoint, Int.natCast_add, Int.cast_ofNat_Int, Int.add_assoc, Int.reduceAdd, Int.natCast_one]) (fun rec' a k => by simp only [L_w_markSkinPointS_1, ilt_end, cond_f]) a [] fuel k (fun x hx => Nat.le_trans (szL_mem hx) h) h0 hk (by simp only [List.nil_append]; omega) (by unfold fuel; omega)
  simp only [List.nil_append, List.length_nil] at this
  rw [show ((0 : Nat) : Int) = 0 from rfl] at this
  rw [this]
  rfl
theorem c_w_heldInt64S (a : (List Int)) (k : Int) (h : szL z_I64 a ≤ 1073741824) (h0 : 0 ≤ k) (hk : k + sumL c_I64 a < 4611686018427387904) : g_w_heldInt64S (mkL m_I64 c_I64 a k) k = some (k + sumL c_I64 a) := by
  have hl := szL_len (s := z_I64) a
  unfold g_w_heldInt64S
  have := held_loop (step := L_w_heldInt64S_1) (m := m_I64) (c := c_I64) (p := fun x => z_I64 x ≤ 1073741824) (fun rec' pre x suf k t hp h0 hk hb => by
    have hb2 := hb; rw [List.length_append, List.length_cons] at hb2; have hk2 := hk; simp only [c_I64] at hk2
    simp (disch := omega) only [L_w_heldInt64S_1, ilt_mid, ix_mid, getD_mid, iadd_ok, ilt_f, feq_fofInt, opt_bind_some, cond_t, cond_f, bnot_t, bnot_f, cond_same, ieq_self, beqB_self]
    simp (disch := omega) only [c_I64, m_I64, z_I64, opt_bind_some, ilt_f, feq_fofInt, opt_bind_some, cond_t, cond_f, bnot_t, bnot_f, cond_same, ieq_self, beqB_self, Int.natCast_add, Int.cast_ofNat_Int, Int.add_assoc, Int.reduceAdd, Int.natCast_one]) (fun rec' a k t => by simp only [L_w_heldInt64S_1, ilt_end, cond_f]) a [] fuel k 0 (fun x hx => Nat.le_trans (szL_mem hx) h) h0 hk (by simp only [List.nil_append, mkL_length]; omega) (by unfold fuel; omega)
  simp only [List.nil_append, List.length_nil] at this
  rw [show ((0 : Nat) : Int) = 0 from rfl] at this
  rw [this]
  rfl
end Go.Fw
