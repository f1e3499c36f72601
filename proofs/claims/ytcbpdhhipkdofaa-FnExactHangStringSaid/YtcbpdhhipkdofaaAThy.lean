/- What the laws' own functions compute. No condition. -/
import Derived.Test.YtcbpdhhipkdofaaFwE
import Derived.Test.YtcbpdhhipkdofaaAPure
set_option linter.unusedVariables false
set_option linter.unusedSimpArgs false
namespace Go.Fw
def c_F32 (_ : Nat) : Nat := 1
def m_F32 (_ : Nat) (k : Int) : Nat := fofInt .f32 k
def z_F32 (_ : Nat) : Nat := 0
theorem b1_F32 (x : Nat) : c_F32 x ≤ 16 * (1 + z_F32 x) := by unfold c_F32 z_F32; omega
theorem c_w_sameFloat (a : Nat) : t_w_sameFloat a a = true := by
  unfold t_w_sameFloat; cases feq .f64 a a <;> cases feq .f64 a 0 <;> simp [beqB_self]
theorem c_w_eqFloat32S (a : (List Nat)) (h : szL z_F32 a ≤ 1073741824) : g_w_eqFloat32S a a = some true := by
  have hl := szL_len (s := z_F32) a
  unfold g_w_eqFloat32S
  rw [ieq_self, bnot_t, cond_f]
  have := eq_loop (step := L_w_eqFloat32S_1) (p := fun x => z_F32 x ≤ 1073741824) (fun rec' pre x suf t hp hb => by
    have hb2 := hb; rw [List.length_append, List.length_cons] at hb2; have hp2 := hp; try unfold z_F32 at hp2
    simp (disch := first | omega | assumption) only [L_w_eqFloat32S_1, ilt_mid, ix_mid, getD_mid, iadd_ok, opt_bind_some, cond_t, cond_f, bnot_t, bnot_f, cond_same, ieq_self, beqB_self, c_w_sameFloat]) (fun rec' a t => by simp only [L_w_eqFloat32S_1, ilt_end, cond_f]) a [] fuel false (fun x hx => Nat.le_trans (szL_mem hx) h) (by simp only [List.nil_append]; omega) (by unfold fuel; omega)
  simp only [List.nil_append, List.length_nil] at this
  rw [show ((0 : Nat) : Int) = 0 from rfl] at this
  rw [this]
  rfl
def c_Vec (x : dVec) : Nat := 3
def m_Vec (x : dVec) (k : Int) : dVec := (fofInt .f32 (k), (fofInt .f32 (k + 1), (fofInt .f32 (k + 1 + 1), ())))
def z_Vec (x : dVec) : Nat := 0
theorem b1_Vec (x : dVec) : c_Vec x ≤ 16 * (1 + z_Vec x) := by  unfold c_Vec z_Vec; omega
theorem c_w_toVector (a : dVec) : t_w_toVector a = a := rfl
theorem c_w_eqVector (a : dVec) : t_w_eqVector a a = true := by
  unfold t_w_eqVector; simp only [opt_bind_some, cond_t, cond_f, bnot_t, bnot_f, cond_same, ieq_self, beqB_self, c_w_sameFloat]
theorem c_w_eqVectorS (a : (List dVec)) (h : szL z_Vec a ≤ 1073741824) : g_w_eqVectorS a a = some true := by
  have hl := szL_len (s := z_Vec) a
  unfold g_w_eqVectorS
  rw [ieq_self, bnot_t, cond_f]
  have := eq_loop (step := L_w_eqVectorS_1) (p := fun x => z_Vec x ≤ 1073741824) (fun rec' pre x suf t hp hb => by
    have hb2 := hb; rw [List.length_append, List.length_cons] at hb2; have hp2 := hp; try unfold z_Vec at hp2
    simp (disch := first | omega | assumption) only [L_w_eqVectorS_1, ilt_mid, ix_mid, getD_mid, iadd_ok, opt_bind_some, cond_t, cond_f, bnot_t, bnot_f, cond_same, ieq_self, beqB_self, c_w_eqVector]) (fun rec' a t => by simp only [L_w_eqVectorS_1, ilt_end, cond_f]) a [] fuel false (fun x hx => Nat.le_trans (szL_mem hx) h) (by simp only [List.nil_append]; omega) (by unfold fuel; omega)
  simp only [List.nil_append, List.length_nil] at this
  rw [show ((0 : Nat) : Int) = 0 from rfl] at this
  rw [this]
  rfl
theorem c_w_markFloat32S (a : (List Nat)) (k : Int) (h : szL z_F32 a ≤ 1073741824) (h0 : 0 ≤ k) (hk : k + sumL c_F32 a < 4611686018427387904) : g_w_markFloat32S a k = some (k + sumL c_F32 a, (mkL m_F32 c_F32 a k, (k, ()))) := by
  have hl := szL_len (s := z_F32) a
  unfold g_w_markFloat32S
  have := mark_loop (step := L_w_markFloat32S_1) (m := m_F32) (c := c_F32) (p := fun x => z_F32 x ≤ 1073741824) (fun rec' pre x suf k hp h0 hk hb => by
    have hb2 := hb; rw [List.length_append, List.length_cons] at hb2; have hk2 := hk; simp only [c_F32] at hk2
    simp (disch := omega) only [L_w_markFloat32S_1, ilt_mid, ix_mid, getD_mid, set_mid, iadd_ok, opt_bind_some, cond_t, cond_f, bnot_t, bnot_f, cond_same, ieq_self, beqB_self]
    simp only [c_F32, m_F32, z_F32, Int.natCast_add, Int.cast_ofNat_Int, Int.add_assoc, Int.reduceAdd, Int.natCast_one]) (fun rec' a k => by simp only [L_w_markFloat32S_1, ilt_end, cond_f]) a [] fuel k (fun x hx => Nat.le_trans (szL_mem hx) h) h0 hk (by simp only [List.nil_append]; omega) (by unfold fuel; omega)
  simp only [List.nil_append, List.length_nil] at this
  rw [show ((0 : Nat) : Int) = 0 from rfl] at this
  rw [this]
  rfl
theorem c_w_heldFloat32S (a : (List Nat)) (k : Int) (h : szL z_F32 a ≤ 1073741824) (h0 : 0 ≤ k) (hk : k + sumL c_F32 a < 4611686018427387904) : g_w_heldFloat32S (mkL m_F32 c_F32 a k) k = some (k + sumL c_F32 a) := by
  have hl := szL_len (s := z_F32) a
  unfold g_w_heldFloat32S
  have := held_loop (step := L_w_heldFloat32S_1) (m := m_F32) (c := c_F32) (p := fun x => z_F32 x ≤ 1073741824) (fun rec' pre x suf k t hp h0 hk hb => by
    have hb2 := hb; rw [List.length_append, List.length_cons] at hb2; have hk2 := hk; simp only [c_F32] at hk2
    simp (disch := omega) only [L_w_heldFloat32S_1, ilt_mid, ix_mid, getD_mid, iadd_ok, ilt_f, feq_fofInt, opt_bind_some, cond_t, cond_f, bnot_t, bnot_f, cond_same, ieq_self, beqB_self]
    simp (disch := omega) only [c_F32, m_F32, z_F32, opt_bind_some, ilt_f, feq_fofInt, opt_bind_some, cond_t, cond_f, bnot_t, bnot_f, cond_same, ieq_self, beqB_self, Int.natCast_add, Int.cast_ofNat_Int, Int.add_assoc, Int.reduceAdd, Int.natCast_one]) (fun rec' a k t => by simp only [L_w_heldFloat32S_1, ilt_end, cond_f]) a [] fuel k 0 (fun x hx => Nat.le_trans (szL_mem hx) h) h0 hk (by simp only [List.nil_append, mkL_length]; omega) (by unfold fuel; omega)
  simp only [List.nil_append, List.length_nil] at this
  rw [show ((0 : Nat) : Int) = 0 from rfl] at this
  rw [this]
  rfl
def c_Bool (_ : Bool) : Nat := 1
def m_Bool (_ : Bool) (k : Int) : Bool := ieq (irem .i64 k 3) 0
def z_Bool (_ : Bool) : Nat := 0
theorem b1_Bool (x : Bool) : c_Bool x ≤ 16 * (1 + z_Bool x) := by unfold c_Bool z_Bool; omega
def z_String (x : dString) : Nat := szL z_Vec x.1 + szL z_Vec x.2.1 + szL z_Bool x.2.2.1 + szL z_F32 x.2.2.2.1
def cv_String (x : dString) : Nat := sumL c_Vec x.1 + sumL c_Vec x.2.1 + sumL c_Bool x.2.2.1 + sumL c_F32 x.2.2.2.1
def mv_String (x : dString) (k : Int) : dString := (mkL m_Vec c_Vec x.1 (k), (mkL m_Vec c_Vec x.2.1 (k + (sumL c_Vec x.1 : Nat)), (mkL m_Bool c_Bool x.2.2.1 (k + (sumL c_Vec x.1 : Nat) + (sumL c_Vec x.2.1 : Nat)), (mkL m_F32 c_F32 x.2.2.2.1 (k + (sumL c_Vec x.1 : Nat) + (sumL c_Vec x.2.1 : Nat) + (sumL c_Bool x.2.2.1 : Nat)), ((x.2.2.2.2.1.1, (x.2.2.2.2.1.2.1, (x.2.2.2.2.1.2.2.1, ()))), (x.2.2.2.2.2.1, (x.2.2.2.2.2.2.1, ())))))))
theorem bv_String (x : dString) : cv_String x ≤ 16 * z_String x := by have := sumL_le b1_Vec x.1; have := sumL_le b1_Vec x.2.1; have := sumL_le b1_Bool x.2.2.1; have := sumL_le b1_F32 x.2.2.2.1; unfold cv_String z_String; omega
theorem c_w_eqBoolS (a : (List Bool)) (h : szL z_Bool a ≤ 1073741824) : g_w_eqBoolS a a = some true := by
  have hl := szL_len (s := z_Bool) a
  unfold g_w_eqBoolS
  rw [ieq_self, bnot_t, cond_f]
  have := eq_loop (step := L_w_eqBoolS_1) (p := fun x => z_Bool x ≤ 1073741824) (fun rec' pre x suf t hp hb => by
    have hb2 := hb; rw [List.length_append, List.length_cons] at hb2; have hp2 := hp; try unfold z_Bool at hp2
    simp (disch := first | omega | assumption) only [L_w_eqBoolS_1, ilt_mid, ix_mid, getD_mid, iadd_ok, opt_bind_some, cond_t, cond_f, bnot_t, bnot_f, cond_same, ieq_self, beqB_self]) (fun rec' a t => by simp only [L_w_eqBoolS_1, ilt_end, cond_f]) a [] fuel false (fun x hx => Nat.le_trans (szL_mem hx) h) (by simp only [List.nil_append]; omega) (by unfold fuel; omega)
  simp only [List.nil_append, List.length_nil] at this
  rw [show ((0 : Nat) : Int) = 0 from rfl] at this
  rw [this]
  rfl
theorem c_w_eqString (a : dString) (h : z_String a ≤ 1073741824) : g_w_eqString a a = some true := by
  unfold z_String at h; unfold g_w_eqString; simp (disch := omega) only [opt_bind_some, cond_t, cond_f, bnot_t, bnot_f, cond_same, ieq_self, beqB_self, c_w_eqVectorS, c_w_eqBoolS, c_w_eqFloat32S, c_w_eqVector, c_w_sameFloat]
theorem c_w_markVectorS (a : (List dVec)) (k : Int) (h : szL z_Vec a ≤ 1073741824) (h0 : 0 ≤ k) (hk : k + sumL c_Vec a < 4611686018427387904) : g_w_markVectorS a k = some (k + sumL c_Vec a, (mkL m_Vec c_Vec a k, (k, ()))) := by
  have hl := szL_len (s := z_Vec) a
  unfold g_w_markVectorS
  have := mark_loop (step := L_w_markVectorS_1) (m := m_Vec) (c := c_Vec) (p := fun x => z_Vec x ≤ 1073741824) (fun rec' pre x suf k hp h0 hk hb => by
    have hb2 := hb; rw [List.length_append, List.length_cons] at hb2; have hk2 := hk; have hp2 := hp; simp only [c_Vec, z_Vec, Int.natCast_add] at hk2 hp2
    simp (disch := omega) only [L_w_markVectorS_1, ilt_mid, ix_mid, getD_mid, set_mid, iadd_ok, opt_bind_some, cond_t, cond_f, bnot_t, bnot_f, cond_same, ieq_self, beqB_self]
    simp only [c_Vec, m_Vec, z_Vec, Int.natCast_add, Int.cast_ofNat_Int, Int.add_assoc, Int.reduceAdd, Int.natCast_one]) (fun rec' a k => by simp only [L_w_markVectorS_1, ilt_end, cond_f]) a [] fuel k (fun x hx => Nat.le_trans (szL_mem hx) h) h0 hk (by simp only [List.nil_append]; omega) (by unfold fuel; omega)
  simp only [List.nil_append, List.length_nil] at this
  rw [show ((0 : Nat) : Int) = 0 from rfl] at this
  rw [this]
  rfl
theorem c_w_markBoolS (a : (List Bool)) (k : Int) (h : szL z_Bool a ≤ 1073741824) (h0 : 0 ≤ k) (hk : k + sumL c_Bool a < 4611686018427387904) : g_w_markBoolS a k = some (k + sumL c_Bool a, (mkL m_Bool c_Bool a k, (k, ()))) := by
  have hl := szL_len (s := z_Bool) a
  unfold g_w_markBoolS
  have := mark_loop (step := L_w_markBoolS_1) (m := m_Bool) (c := c_Bool) (p := fun x => z_Bool x ≤ 1073741824) (fun rec' pre x suf k hp h0 hk hb => by
    have hb2 := hb; rw [List.length_append, List.length_cons] at hb2; have hk2 := hk; simp only [c_Bool] at hk2
    simp (disch := omega) only [L_w_markBoolS_1, ilt_mid, ix_mid, getD_mid, set_mid, iadd_ok, opt_bind_some, cond_t, cond_f, bnot_t, bnot_f, cond_same, ieq_self, beqB_self]
    simp only [c_Bool, m_Bool, z_Bool, Int.natCast_add, Int.cast_ofNat_Int, Int.add_assoc, Int.reduceAdd, Int.natCast_one]) (fun rec' a k => by simp only [L_w_markBoolS_1, ilt_end, cond_f]) a [] fuel k (fun x hx => Nat.le_trans (szL_mem hx) h) h0 hk (by simp only [List.nil_append]; omega) (by unfold fuel; omega)
  simp only [List.nil_append, List.length_nil] at this
  rw [show ((0 : Nat) : Int) = 0 from rfl] at this
  rw [this]
  rfl
theorem c_w_markString (a : dString) (k : Int) (h : z_String a ≤ 1073741824) (h0 : 0 ≤ k) (hk : k + cv_String a < 4611686018427387904) : g_w_markString a k = some (k + cv_String a, (mv_String a k, (k, ()))) := by
  unfold z_String at h; unfold cv_String at hk; unfold g_w_markString
  try simp only [Int.natCast_add] at hk
  simp (disch := omega) only [opt_bind_some, c_w_markVectorS, c_w_markBoolS, c_w_markFloat32S, cv_String, mv_String, Int.natCast_add, Int.add_assoc]
theorem c_w_heldVectorS (a : (List dVec)) (k : Int) (h : szL z_Vec a ≤ 1073741824) (h0 : 0 ≤ k) (hk : k + sumL c_Vec a < 4611686018427387904) : g_w_heldVectorS (mkL m_Vec c_Vec a k) k = some (k + sumL c_Vec a) := by
  have hl := szL_len (s := z_Vec) a
  unfold g_w_heldVectorS
  have := held_loop (step := L_w_heldVectorS_1) (m := m_Vec) (c := c_Vec) (p := fun x => z_Vec x ≤ 1073741824) (fun rec' pre x suf k t hp h0 hk hb => by
    have hb2 := hb; rw [List.length_append, List.length_cons] at hb2; have hk2 := hk; have hp2 := hp; simp only [c_Vec, z_Vec, Int.natCast_add] at hk2 hp2
    simp (disch := omega) only [L_w_heldVectorS_1, ilt_mid, ix_mid, getD_mid, iadd_ok, ilt_f, feq_fofInt, opt_bind_some, cond_t, cond_f, bnot_t, bnot_f, cond_same, ieq_self, beqB_self]
    simp (disch := omega) only [c_Vec, m_Vec, z_Vec, opt_bind_some, ilt_f, feq_fofInt, opt_bind_some, cond_t, cond_f, bnot_t, bnot_f, cond_same, ieq_self, beqB_self, Int.natCast_add, Int.cast_ofNat_Int, Int.add_assoc, Int.reduceAdd, Int.natCast_one]) (fun rec' a k t => by simp only [L_w_heldVectorS_1, ilt_end, cond_f]) a [] fuel k 0 (fun x hx => Nat.le_trans (szL_mem hx) h) h0 hk (by simp only [List.nil_append, mkL_length]; omega) (by unfold fuel; omega)
  simp only [List.nil_append, List.length_nil] at this
  rw [show ((0 : Nat) : Int) = 0 from rfl] at this
  rw [this]
  rfl
theorem c_w_heldBoolS (a : (List Bool)) (k : Int) (h : szL z_Bool a ≤ 1073741824) (h0 : 0 ≤ k) (hk : k + sumL c_Bool a < 4611686018427387904) : g_w_heldBoolS (mkL m_Bool c_Bool a k) k = some (k + sumL c_Bool a) := by
  have hl := szL_len (s := z_Bool) a
  unfold g_w_heldBoolS
  have := held_loop (step := L_w_heldBoolS_1) (m := m_Bool) (c := c_Bool) (p := fun x => z_Bool x ≤ 1073741824) (fun rec' pre x suf k t hp h0 hk hb => by
    have hb2 := hb; rw [List.length_append, List.length_cons] at hb2; have hk2 := hk; simp only [c_Bool] at hk2
    simp (disch := omega) only [L_w_heldBoolS_1, ilt_mid, ix_mid, getD_mid, iadd_ok, ilt_f, feq_fofInt, opt_bind_some, cond_t, cond_f, bnot_t, bnot_f, cond_same, ieq_self, beqB_self]
    simp (disch := omega) only [c_Bool, m_Bool, z_Bool, opt_bind_some, ilt_f, feq_fofInt, opt_bind_some, cond_t, cond_f, bnot_t, bnot_f, cond_same, ieq_self, beqB_self, Int.natCast_add, Int.cast_ofNat_Int, Int.add_assoc, Int.reduceAdd, Int.natCast_one]) (fun rec' a k t => by simp only [L_w_heldBoolS_1, ilt_end, cond_f]) a [] fuel k 0 (fun x hx => Nat.le_trans (szL_mem hx) h) h0 hk (by simp only [List.nil_append, mkL_length]; omega) (by unfold fuel; omega)
  simp only [List.nil_append, List.length_nil] at this
  rw [show ((0 : Nat) : Int) = 0 from rfl] at this
  rw [this]
  rfl
theorem c_w_heldString (a : dString) (k : Int) (h : z_String a ≤ 1073741824) (h0 : 0 ≤ k) (hk : k + cv_String a < 4611686018427387904) : g_w_heldString (mv_String a k) k = some (k + cv_String a) := by
  unfold z_String at h; unfold cv_String at hk; unfold g_w_heldString
  try simp only [Int.natCast_add] at hk
  simp (disch := omega) only [mv_String, opt_bind_some, c_w_heldVectorS, c_w_heldBoolS, c_w_heldFloat32S, ilt_f, cond_f, cv_String, Int.natCast_add, Int.add_assoc]
end Go.Fw
