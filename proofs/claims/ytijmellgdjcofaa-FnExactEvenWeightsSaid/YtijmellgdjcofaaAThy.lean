/- What the laws' own functions compute. No condition. -/
import Derived.Test.YtijmellgdjcofaaFwD
import Derived.Test.YtijmellgdjcofaaAPure
set_option linter.unusedVariables false
set_option linter.unusedSimpArgs false
namespace Go.Fw
def c_F32 (_ : Nat) : Nat := 1
def m_F32 (_ : Nat) (k : Int) : Nat := fofInt .f32 k
def z_F32 (_ : Nat) : Nat := 0
theorem b1_F32 (x : Nat) : c_F32 x ≤ 16 * (1 + z_F32 x) := by unfold c_F32 z_F32; omega
def c_F32S (x : (List Nat)) : Nat := sumL c_F32 x
def m_F32S (x : (List Nat)) (k : Int) : (List Nat) := mkL m_F32 c_F32 x k
def z_F32S (x : (List Nat)) : Nat := szL z_F32 x
theorem b_F32S (x : (List Nat)) : c_F32S x ≤ 16 * z_F32S x := sumL_le b1_F32 x
theorem b1_F32S (x : (List Nat)) : c_F32S x ≤ 16 * (1 + z_F32S x) := by have := b_F32S x; omega
theorem c_w_toFloat32S (a : (List Nat)) (h : szL z_F32 a ≤ 1073741824) : g_w_toFloat32S a = some (a) := by
  have hl := szL_len (s := z_F32) a
  unfold g_w_toFloat32S
  rw [mkOk_t (by omega) (by omega) (by omega), cond_t]
  have := to_loop (step := L_w_toFloat32S_1) (z := (0 : Nat)) (p := fun x => z_F32 x ≤ 1073741824) (fun rec' pre x suf r hp hb => by
    have hb2 := hb; rw [List.length_append, List.length_cons] at hb2; have hp2 := hp; try unfold z_F32 at hp2
    simp (disch := first | omega | assumption) only [L_w_toFloat32S_1, ilt_mid, ix_mid, getD_mid, set_mid, iadd_ok, opt_bind_some, cond_t, cond_f, bnot_t, bnot_f, cond_same, ieq_self, beqB_self]) (fun rec' a => by simp only [L_w_toFloat32S_1, ilt_end, cond_f]) a [] fuel (fun x hx => Nat.le_trans (szL_mem hx) h) (by simp only [List.nil_append]; omega) (by unfold fuel; omega)
  simp only [List.nil_append, List.length_nil] at this
  rw [show ((0 : Nat) : Int) = 0 from rfl] at this
  first | rw [this] | (simp only [z_consts] at this ⊢; rw [this])
  rfl
theorem c_w_sameFloat (a : Nat) : t_w_sameFloat a a = true := by
  unfold t_w_sameFloat; cases feq .f64 a a <;> cases feq .f64 a 0 <;> simp [beqB_self]
theorem c_w_eqFloat32S (a : (List Nat)) (h : szL z_F32 a ≤ 1073741824) : g_w_eqFloat32S a a = some true := by
  have hl := szL_len (s := z_F32) a
  unfold g_w_eqFloat32S
  rw [ieq_self, bnot_t, cond_f]
  have := eq_loop (step := L_w_eqFloat32S_1) (p := fun x => z_F32 x ≤ 1073741824) (fun rec' pre x suf t hp hb => by
    have hb2 := hb; rw [List.length_append, List.length_cons] at hb2; have hp2 := hp; try unfold z_F32 at hp2
    simp (disch := first | omega | assumption) only [L_w_eqFloat32S_1, ilt_mid, ix_mid, getD_mid, iadd_ok, opt_bind_some, cond_t, cond_f, bnot_t, bnot_f, cond_same, ieq_self, beqB_self, c_w_sameFloat]) (fun rec' a t => by simp only [L_w_eqFloat32S_1, ilt_end, cond_f]) a [] fuel false (fun x hx => Nat.le_trans (szL_mem hx) h) (by simp only [List.nil_append]; omega) (by unfold fuel; omega)
  simp only [List.nil_append, List.length_nil] at this
  rw [show ((0 : Nat) : Int) = 0 from rfl] at this
  rw [this]
  rfl
def c_Vec (x : dVec) : Nat := 3
def m_Vec (x : dVec) (k : Int) : dVec := (fofInt .f32 (k), (fofInt .f32 (k + 1), (fofInt .f32 (k + 1 + 1), ())))
def z_Vec (x : dVec) : Nat := 0
def cv_Vec (x : dVec) : Nat := 0
def mv_Vec (x : dVec) (k : Int) : dVec := (x.1, (x.2.1, (x.2.2.1, ())))
theorem b1_Vec (x : dVec) : c_Vec x ≤ 16 * (1 + z_Vec x) := by  unfold c_Vec z_Vec; omega
theorem bv_Vec (x : dVec) : cv_Vec x ≤ 16 * z_Vec x := by  unfold cv_Vec z_Vec; omega
def c_VecS (x : (List dVec)) : Nat := sumL c_Vec x
def m_VecS (x : (List dVec)) (k : Int) : (List dVec) := mkL m_Vec c_Vec x k
def z_VecS (x : (List dVec)) : Nat := szL z_Vec x
theorem b_VecS (x : (List dVec)) : c_VecS x ≤ 16 * z_VecS x := sumL_le b1_Vec x
theorem b1_VecS (x : (List dVec)) : c_VecS x ≤ 16 * (1 + z_VecS x) := by have := b_VecS x; omega
theorem c_w_szVectorS (a : (List dVec)) (left : Int) (hok : Ty.ok (.slice tVec) a) (h1 : -1 ≤ left) (h2 : left < 4611686018427387904) : t_w_szVectorS a left = (if (szL z_Vec a : Int) ≤ left then left - szL z_Vec a else -1) := by
  have hl : a.length ≤ 9223372036854775807 := hok.1
  unfold t_w_szVectorS
  rw [show szL z_Vec a = a.length from szL_zero a]
  rw [isub_ok (by omega) (by omega)]
  by_cases hc : (a.length : Int) ≤ left
  · rw [if_pos hc, ilt_f (by omega)]; rfl
  · rw [if_neg hc, ilt_t (by omega)]; rfl
theorem c_w_toVector (a : dVec) : t_w_toVector a = a := rfl
theorem c_w_toVectorS (a : (List dVec)) (h : szL z_Vec a ≤ 1073741824) : g_w_toVectorS a = some (a) := by
  have hl := szL_len (s := z_Vec) a
  unfold g_w_toVectorS
  rw [mkOk_t (by omega) (by omega) (by omega), cond_t]
  have := to_loop (step := L_w_toVectorS_1) (z := zVec) (p := fun x => z_Vec x ≤ 1073741824) (fun rec' pre x suf r hp hb => by
    have hb2 := hb; rw [List.length_append, List.length_cons] at hb2; have hp2 := hp; try unfold z_Vec at hp2
    simp (disch := first | omega | assumption) only [L_w_toVectorS_1, ilt_mid, ix_mid, getD_mid, set_mid, iadd_ok, opt_bind_some, cond_t, cond_f, bnot_t, bnot_f, cond_same, ieq_self, beqB_self, c_w_toVector]) (fun rec' a => by simp only [L_w_toVectorS_1, ilt_end, cond_f]) a [] fuel (fun x hx => Nat.le_trans (szL_mem hx) h) (by simp only [List.nil_append]; omega) (by unfold fuel; omega)
  simp only [List.nil_append, List.length_nil] at this
  rw [show ((0 : Nat) : Int) = 0 from rfl] at this
  first | rw [this] | (simp only [z_consts] at this ⊢; rw [this])
  rfl
theorem c_w_eqVector (a : dVec) : t_w_eqVector a a = true := by
  unfold t_w_eqVector; simp only [opt_bind_some, cond_t, cond_f, bnot_t, bnot_f, cond_same, ieq_self, beqB_self, c_w_sameFloat]
theorem c_w_eqVectorS (a : (List dVec)) (h : szL z_Vec a ≤ 1073741824) : g_w_eqVectorS a a = some true := by
  have hl := szL_len (s := z_Vec) a
  unfold g_w_eqVectorS
  rw [ieq_self, bnot_t, cond_f]
  have := eq_loop (step := L_w_eqVectorS_1) (p := fun x => z_Vec x ≤ 1073741824) (fun rec' pre x suf t hp hb => by
    have hb2 := hb; rw [List.length_append, List.length_cons] at hb2; have hp2 := hp; try unfold z_Vec at hp2
    simp (disch := first | omega | assumption) only [L_w_eqVectorS_1, ilt_mid, ix_mid, getD_mid, iadd_ok, opt_bind_some, cond_t, cond_f, bnot_t, bnot_f, cond_same, ieq_self, beqB_self, c_w_eqVector]) (fun rec' a t => by simp only [L_w_eqVectorS_1, ilt_end, cond_f]) a [] fuel false (fun x hx => Nat.le_trans (szL_mem hx) h) (by simp only [List.nil_append]; omega) (by unfold fuel; omega)
  simp only [List.nil_append, List.length_nil] at this
  rw [show ((0 : Nat) : Int) = 0 from rfl] at this
  rw [this]
  rfl
def c_I64 (_ : Int) : Nat := 1
def m_I64 (_ : Int) (k : Int) : Int := k
def z_I64 (_ : Int) : Nat := 0
theorem b1_I64 (x : Int) : c_I64 x ≤ 16 * (1 + z_I64 x) := by unfold c_I64 z_I64; omega
def c_I64S (x : (List Int)) : Nat := sumL c_I64 x
def m_I64S (x : (List Int)) (k : Int) : (List Int) := mkL m_I64 c_I64 x k
def z_I64S (x : (List Int)) : Nat := szL z_I64 x
theorem b_I64S (x : (List Int)) : c_I64S x ≤ 16 * z_I64S x := sumL_le b1_I64 x
theorem b1_I64S (x : (List Int)) : c_I64S x ≤ 16 * (1 + z_I64S x) := by have := b_I64S x; omega
theorem c_w_eqInt64S (a : (List Int)) (h : szL z_I64 a ≤ 1073741824) : g_w_eqInt64S a a = some true := by
  have hl := szL_len (s := z_I64) a
  unfold g_w_eqInt64S
  rw [ieq_self, bnot_t, cond_f]
  have := eq_loop (step := L_w_eqInt64S_1) (p := fun x => z_I64 x ≤ 1073741824) (fun rec' pre x suf t hp hb => by
    have hb2 := hb; rw [List.length_append, List.length_cons] at hb2; have hp2 := hp; try unfold z_I64 at hp2
    simp (disch := first | omega | assumption) only [L_w_eqInt64S_1, ilt_mid, ix_mid, getD_mid, iadd_ok, opt_bind_some, cond_t, cond_f, bnot_t, bnot_f, cond_same, ieq_self, beqB_self]) (fun rec' a t => by simp only [L_w_eqInt64S_1, ilt_end, cond_f]) a [] fuel false (fun x hx => Nat.le_trans (szL_mem hx) h) (by simp only [List.nil_append]; omega) (by unfold fuel; omega)
  simp only [List.nil_append, List.length_nil] at this
  rw [show ((0 : Nat) : Int) = 0 from rfl] at this
  rw [this]
  rfl
def c_I64SS (x : (List (List Int))) : Nat := sumL c_I64S x
def m_I64SS (x : (List (List Int))) (k : Int) : (List (List Int)) := mkL m_I64S c_I64S x k
def z_I64SS (x : (List (List Int))) : Nat := szL z_I64S x
theorem b_I64SS (x : (List (List Int))) : c_I64SS x ≤ 16 * z_I64SS x := sumL_le b1_I64S x
theorem b1_I64SS (x : (List (List Int))) : c_I64SS x ≤ 16 * (1 + z_I64SS x) := by have := b_I64SS x; omega
theorem c_w_eqInt64SS (a : (List (List Int))) (h : szL z_I64S a ≤ 1073741824) : g_w_eqInt64SS a a = some true := by
  have hl := szL_len (s := z_I64S) a
  unfold g_w_eqInt64SS
  rw [ieq_self, bnot_t, cond_f]
  have := eq_loop (step := L_w_eqInt64SS_1) (p := fun x => z_I64S x ≤ 1073741824) (fun rec' pre x suf t hp hb => by
    have hb2 := hb; rw [List.length_append, List.length_cons] at hb2; have hp2 := hp; try unfold z_I64S at hp2
    simp (disch := first | omega | assumption) only [L_w_eqInt64SS_1, ilt_mid, ix_mid, getD_mid, iadd_ok, opt_bind_some, cond_t, cond_f, bnot_t, bnot_f, cond_same, ieq_self, beqB_self, c_w_eqInt64S]) (fun rec' a t => by simp only [L_w_eqInt64SS_1, ilt_end, cond_f]) a [] fuel false (fun x hx => Nat.le_trans (szL_mem hx) h) (by simp only [List.nil_append]; omega) (by unfold fuel; omega)
  simp only [List.nil_append, List.length_nil] at this
  rw [show ((0 : Nat) : Int) = 0 from rfl] at this
  rw [this]
  rfl
theorem c_w_markInt64S (a : (List Int)) (k : Int) (h : szL z_I64 a ≤ 1073741824) (h0 : 0 ≤ k) (hk : k + sumL c_I64 a < 4611686018427387904) : g_w_markInt64S a k = some (k + sumL c_I64 a, (mkL m_I64 c_I64 a k, (k, ()))) := by
  have hl := szL_len (s := z_I64) a
  unfold g_w_markInt64S
  have := mark_loop (step := L_w_markInt64S_1) (m := m_I64) (c := c_I64) (p := fun x => z_I64 x ≤ 1073741824) (fun rec' pre x suf k hp h0 hk hb => by
    have hb2 := hb; rw [List.length_append, List.length_cons] at hb2; have hk2 := hk; simp only [c_I64] at hk2
    simp (disch := omega) only [L_w_markInt64S_1, ilt_mid, ix_mid, getD_mid, set_mid, iadd_ok, opt_bind_some, cond_t, cond_f, bnot_t, bnot_f, cond_same, ieq_self, beqB_self]
    simp only [c_I64, m_I64, z_I64, Int.natCast_add, Int.cast_ofNat_Int, Int.add_assoc, Int.reduceAdd, Int.natCast_one]) (fun rec' a k => by simp only [L_w_markInt64S_1, ilt_end, cond_f]) a [] fuel k (fun x hx => Nat.le_trans (szL_mem hx) h) h0 hk (by simp only [List.nil_append]; omega) (by unfold fuel; omega)
  simp only [List.nil_append, List.length_nil] at this
  rw [show ((0 : Nat) : Int) = 0 from rfl] at this
  rw [this]
  rfl
theorem c_w_markInt64SS (a : (List (List Int))) (k : Int) (h : szL z_I64S a ≤ 1073741824) (h0 : 0 ≤ k) (hk : k + sumL c_I64S a < 4611686018427387904) : g_w_markInt64SS a k = some (k + sumL c_I64S a, (mkL m_I64S c_I64S a k, (k, ()))) := by
  have hl := szL_len (s := z_I64S) a
  unfold g_w_markInt64SS
  have := mark_loop (step := L_w_markInt64SS_1) (m := m_I64S) (c := c_I64S) (p := fun x => z_I64S x ≤ 1073741824) (fun rec' pre x suf k hp h0 hk hb => by
    have hb2 := hb; rw [List.length_append, List.length_cons] at hb2; have hk2 := hk; have hp2 := hp; simp only [c_I64S, z_I64S, Int.natCast_add] at hk2 hp2
    simp (disch := omega) only [L_w_markInt64SS_1, ilt_mid, ix_mid, getD_mid, set_mid, iadd_ok, opt_bind_some, cond_t, cond_f, bnot_t, bnot_f, cond_same, ieq_self, beqB_self, c_w_markInt64S]
    simp only [c_I64S, m_I64S, z_I64S, Int.natCast_add, Int.cast_ofNat_Int, Int.add_assoc, Int.reduceAdd, Int.natCast_one]) (fun rec' a k => by simp only [L_w_markInt64SS_1, ilt_end, cond_f]) a [] fuel k (fun x hx => Nat.le_trans (szL_mem hx) h) h0 hk (by simp only [List.nil_append]; omega) (by unfold fuel; omega)
  simp only [List.nil_append, List.length_nil] at this
  rw [show ((0 : Nat) : Int) = 0 from rfl] at this
  rw [this]
  rfl
theorem c_w_heldInt64S (a : (List Int)) (k : Int) (h : szL z_I64 a ≤ 1073741824) (h0 : 0 ≤ k) (hk : k + sumL c_I64 a < 4611686018427387904) : g_w_heldInt64S (mkL m_I64 c_I64 a k) k = some (k + sumL c_I64 a) := by
  have hl := szL_len (s := z_I64) a
  unfold g_w_heldInt64S
  have := held_loop (step := L_w_heldInt64S_1) (m := m_I64) (c := c_I64) (p := fun x => z_I64 x ≤ 1073741824) (fun rec' pre x suf k t hp h0 hk hb => by
    have hb2 := hb; rw [List.length_append, List.length_cons] at hb2; have hk2 := hk; simp only [c_I64] at hk2
    simp (disch := omega) only [L_w_heldInt64S_1, ilt_mid, ix_mid, getD_mid, iadd_ok, ilt_f, feq_fofInt, opt_bind_some, cond_t, cond_f, bnot_t, bnot_f, cond_same, ieq_self, beqB_self]
    simp (disch := omega) only [c_I64, m_I64, z_I64, opt_bind_some, ilt_f, feq_fofInt, opt_bind_some, cond_t, cond_f, bnot_t, bnot_f, cond_same, ieq_self, beqB_self, Int.natCast_add, Int.cast_ofNat_Int, Int.add_assoc, Int.reduceAdd, Int.natCast_one]) (fun rec' a k t => by simp only [L_w_heldInt64S_1, ilt_end, cond_f]) a [] fuel k 0 (fun x hx => Nat.le_trans (szL_mem hx) h) h0 hk (by simp only [List.nil_append, mkL_length]; omega) (by unfold fuel; omega)
  simp only [List.nil_append, List.length_nil] at this
  rw [show ((0 : Nat) : Int) = 0 from rfl] at this
  rw [this]
  rfl
theorem c_w_heldInt64SS (a : (List (List Int))) (k : Int) (h : szL z_I64S a ≤ 1073741824) (h0 : 0 ≤ k) (hk : k + sumL c_I64S a < 4611686018427387904) : g_w_heldInt64SS (mkL m_I64S c_I64S a k) k = some (k + sumL c_I64S a) := by
  have hl := szL_len (s := z_I64S) a
  unfold g_w_heldInt64SS
  have := held_loop (step := L_w_heldInt64SS_1) (m := m_I64S) (c := c_I64S) (p := fun x => z_I64S x ≤ 1073741824) (fun rec' pre x suf k t hp h0 hk hb => by
    have hb2 := hb; rw [List.length_append, List.length_cons] at hb2; have hk2 := hk; have hp2 := hp; simp only [c_I64S, z_I64S, Int.natCast_add] at hk2 hp2
    simp (disch := omega) only [L_w_heldInt64SS_1, ilt_mid, ix_mid, getD_mid, iadd_ok, ilt_f, feq_fofInt, opt_bind_some, cond_t, cond_f, bnot_t, bnot_f, cond_same, ieq_self, beqB_self, c_w_heldInt64S]
    simp (disch := omega) only [c_I64S, m_I64S, z_I64S, opt_bind_some, ilt_f, feq_fofInt, opt_bind_some, cond_t, cond_f, bnot_t, bnot_f, cond_same, ieq_self, beqB_self, c_w_heldInt64S, Int.natCast_add, Int.cast_ofNat_Int, Int.add_assoc, Int.reduceAdd, Int.natCast_one]) (fun rec' a k t => by simp only [L_w_heldInt64SS_1, ilt_end, cond_f]) a [] fuel k 0 (fun x hx => Nat.le_trans (szL_mem hx) h) h0 hk (by simp only [List.nil_append, mkL_length]; omega) (by unfold fuel; omega)
  simp only [List.nil_append, List.length_nil] at this
  rw [show ((0 : Nat) : Int) = 0 from rfl] at this
  rw [this]
  rfl
theorem c_w_markFloat32S (a : (List Nat)) (k : Int) (h : szL z_F32 a ≤ 1073741824) (h0 : 0 ≤ k) (hk : k + sumL c_F32 a < 4611686018427387904) : g_w_markFloat32S a k = some (k + sumL c_F32 a, (mkL m_F32 c_F32 a k, (k, ()))) := by
  have hl := szL_len (s := z_F32) a
  unfold g_w_markFloat32S
  have := mark_loop (step := L_w_markFloat32S_1) (m := m_F32) (c := c_F32) (p := fun x => z_F32 x ≤ 1073741824) (fun rec' pre x suf k hp h0 hk hb => by
    have hb2 := hb; rw [List.length_append, List.length_cons] at hb2; have hk2 := hk; simp only [c_F32] at hk2
    simp (disch := omega) only [L_w_markFloat32S_1, ilt_mid, ix_mid, getD_mid, set_mid, iadd_ok, opt_bind_some, cond_t, cond_f, bnot_t, bnot_f, cond_same, ieq_self, beqB_self]
    simp only [c_F32, m_F32, z_F32, Int.natCast_add, Int.cast_ofNat_Int, Int.add_assoc, Int.reduceAdd, Int.natCast_one]) (fun rec' a k => by simp only [L_w_markFloat32S_1, ilt_end, cond_f]) a [] fuel k (fun x hx => Nat.le_trans (szL_mem hx) h) h0 hk (by simp only [List.nil_append]; omega) (by unfold fuel; omega)
  simp only [List.nil_append, List.length_nil] at this
  rw [show ((0 : Nat) : Int) = 0 from rfl] at this
  rw [this]
  rfl
theorem c_w_heldFloat32S (a : (List Nat)) (k : Int) (h : szL z_F32 a ≤ 1073741824) (h0 : 0 ≤ k) (hk : k + sumL c_F32 a < 4611686018427387904) : g_w_heldFloat32S (mkL m_F32 c_F32 a k) k = some (k + sumL c_F32 a) := by
  have hl := szL_len (s := z_F32) a
  unfold g_w_heldFloat32S
  have := held_loop (step := L_w_heldFloat32S_1) (m := m_F32) (c := c_F32) (p := fun x => z_F32 x ≤ 1073741824) (fun rec' pre x suf k t hp h0 hk hb => by
    have hb2 := hb; rw [List.length_append, List.length_cons] at hb2; have hk2 := hk; simp only [c_F32] at hk2
    simp (disch := omega) only [L_w_heldFloat32S_1, ilt_mid, ix_mid, getD_mid, iadd_ok, ilt_f, feq_fofInt, opt_bind_some, cond_t, cond_f, bnot_t, bnot_f, cond_same, ieq_self, beqB_self]
    simp (disch := omega) only [c_F32, m_F32, z_F32, opt_bind_some, ilt_f, feq_fofInt, opt_bind_some, cond_t, cond_f, bnot_t, bnot_f, cond_same, ieq_self, beqB_self, Int.natCast_add, Int.cast_ofNat_Int, Int.add_assoc, Int.reduceAdd, Int.natCast_one]) (fun rec' a k t => by simp only [L_w_heldFloat32S_1, ilt_end, cond_f]) a [] fuel k 0 (fun x hx => Nat.le_trans (szL_mem hx) h) h0 hk (by simp only [List.nil_append, mkL_length]; omega) (by unfold fuel; omega)
  simp only [List.nil_append, List.length_nil] at this
  rw [show ((0 : Nat) : Int) = 0 from rfl] at this
  rw [this]
  rfl
def c_Turn (x : dTurn) : Nat := 4
def m_Turn (x : dTurn) (k : Int) : dTurn := (fofInt .f32 (k), (fofInt .f32 (k + 1), (fofInt .f32 (k + 1 + 1), (fofInt .f32 (k + 1 + 1 + 1), ()))))
def z_Turn (x : dTurn) : Nat := 0
def cv_Turn (x : dTurn) : Nat := 0
def mv_Turn (x : dTurn) (k : Int) : dTurn := (x.1, (x.2.1, (x.2.2.1, (x.2.2.2.1, ()))))
theorem b1_Turn (x : dTurn) : c_Turn x ≤ 16 * (1 + z_Turn x) := by  unfold c_Turn z_Turn; omega
theorem bv_Turn (x : dTurn) : cv_Turn x ≤ 16 * z_Turn x := by  unfold cv_Turn z_Turn; omega
theorem c_w_eqTurn (a : dTurn) : t_w_eqTurn a a = true := by
  unfold t_w_eqTurn; simp only [opt_bind_some, cond_t, cond_f, bnot_t, bnot_f, cond_same, ieq_self, beqB_self, c_w_sameFloat]
def c_TurnS (x : (List dTurn)) : Nat := sumL c_Turn x
def m_TurnS (x : (List dTurn)) (k : Int) : (List dTurn) := mkL m_Turn c_Turn x k
def z_TurnS (x : (List dTurn)) : Nat := szL z_Turn x
theorem b_TurnS (x : (List dTurn)) : c_TurnS x ≤ 16 * z_TurnS x := sumL_le b1_Turn x
theorem b1_TurnS (x : (List dTurn)) : c_TurnS x ≤ 16 * (1 + z_TurnS x) := by have := b_TurnS x; omega
theorem c_w_eqTurnS (a : (List dTurn)) (h : szL z_Turn a ≤ 1073741824) : g_w_eqTurnS a a = some true := by
  have hl := szL_len (s := z_Turn) a
  unfold g_w_eqTurnS
  rw [ieq_self, bnot_t, cond_f]
  have := eq_loop (step := L_w_eqTurnS_1) (p := fun x => z_Turn x ≤ 1073741824) (fun rec' pre x suf t hp hb => by
    have hb2 := hb; rw [List.length_append, List.length_cons] at hb2; have hp2 := hp; try unfold z_Turn at hp2
    simp (disch := first | omega | assumption) only [L_w_eqTurnS_1, ilt_mid, ix_mid, getD_mid, iadd_ok, opt_bind_some, cond_t, cond_f, bnot_t, bnot_f, cond_same, ieq_self, beqB_self, c_w_eqTurn]) (fun rec' a t => by simp only [L_w_eqTurnS_1, ilt_end, cond_f]) a [] fuel false (fun x hx => Nat.le_trans (szL_mem hx) h) (by simp only [List.nil_append]; omega) (by unfold fuel; omega)
  simp only [List.nil_append, List.length_nil] at this
  rw [show ((0 : Nat) : Int) = 0 from rfl] at this
  rw [this]
  rfl
def c_Pose (x : dPose) : Nat := 3 + sumL c_Turn x.2.1
def m_Pose (x : dPose) (k : Int) : dPose := ((fofInt .f32 (k), (fofInt .f32 (k + 1), (fofInt .f32 (k + 1 + 1), ()))), (mkL m_Turn c_Turn x.2.1 (k + 1 + 1 + 1), ()))
def z_Pose (x : dPose) : Nat := szL z_Turn x.2.1
def cv_Pose (x : dPose) : Nat := sumL c_Turn x.2.1
def mv_Pose (x : dPose) (k : Int) : dPose := ((x.1.1, (x.1.2.1, (x.1.2.2.1, ()))), (mkL m_Turn c_Turn x.2.1 (k), ()))
theorem b1_Pose (x : dPose) : c_Pose x ≤ 16 * (1 + z_Pose x) := by have := sumL_le b1_Turn x.2.1; unfold c_Pose z_Pose; omega
theorem bv_Pose (x : dPose) : cv_Pose x ≤ 16 * z_Pose x := by have := sumL_le b1_Turn x.2.1; unfold cv_Pose z_Pose; omega
theorem c_w_eqPose (a : dPose) (h : z_Pose a ≤ 1073741824) : g_w_eqPose a a = some true := by
  unfold z_Pose at h; unfold g_w_eqPose; simp (disch := omega) only [opt_bind_some, cond_t, cond_f, bnot_t, bnot_f, cond_same, ieq_self, beqB_self, c_w_eqVector, c_w_eqTurnS]
theorem c_w_markTurnS (a : (List dTurn)) (k : Int) (h : szL z_Turn a ≤ 1073741824) (h0 : 0 ≤ k) (hk : k + sumL c_Turn a < 4611686018427387904) : g_w_markTurnS a k = some (k + sumL c_Turn a, (mkL m_Turn c_Turn a k, (k, ()))) := by
  have hl := szL_len (s := z_Turn) a
  unfold g_w_markTurnS
  have := mark_loop (step := L_w_markTurnS_1) (m := m_Turn) (c := c_Turn) (p := fun x => z_Turn x ≤ 1073741824) (fun rec' pre x suf k hp h0 hk hb => by
    have hb2 := hb; rw [List.length_append, List.length_cons] at hb2; have hk2 := hk; have hp2 := hp; simp only [c_Turn, z_Turn, Int.natCast_add] at hk2 hp2
    simp (disch := omega) only [L_w_markTurnS_1, ilt_mid, ix_mid, getD_mid, set_mid, iadd_ok, opt_bind_some, cond_t, cond_f, bnot_t, bnot_f, cond_same, ieq_self, beqB_self]
    simp only [c_Turn, m_Turn, z_Turn, Int.natCast_add, Int.cast_ofNat_Int, Int.add_assoc, Int.reduceAdd, Int.natCast_one]) (fun rec' a k => by simp only [L_w_markTurnS_1, ilt_end, cond_f]) a [] fuel k (fun x hx => Nat.le_trans (szL_mem hx) h) h0 hk (by simp only [List.nil_append]; omega) (by unfold fuel; omega)
  simp only [List.nil_append, List.length_nil] at this
  rw [show ((0 : Nat) : Int) = 0 from rfl] at this
  rw [this]
  rfl
theorem c_w_markPose (a : dPose) (k : Int) (h : z_Pose a ≤ 1073741824) (h0 : 0 ≤ k) (hk : k + cv_Pose a < 4611686018427387904) : g_w_markPose a k = some (k + cv_Pose a, (mv_Pose a k, (k, ()))) := by
  unfold z_Pose at h; unfold cv_Pose at hk; unfold g_w_markPose
  try simp only [Int.natCast_add] at hk
  simp (disch := omega) only [opt_bind_some, c_w_markTurnS, cv_Pose, mv_Pose, Int.natCast_add, Int.add_assoc]
theorem c_w_heldTurnS (a : (List dTurn)) (k : Int) (h : szL z_Turn a ≤ 1073741824) (h0 : 0 ≤ k) (hk : k + sumL c_Turn a < 4611686018427387904) : g_w_heldTurnS (mkL m_Turn c_Turn a k) k = some (k + sumL c_Turn a) := by
  have hl := szL_len (s := z_Turn) a
  unfold g_w_heldTurnS
  have := held_loop (step := L_w_heldTurnS_1) (m := m_Turn) (c := c_Turn) (p := fun x => z_Turn x ≤ 1073741824) (fun rec' pre x suf k t hp h0 hk hb => by
    have hb2 := hb; rw [List.length_append, List.length_cons] at hb2; have hk2 := hk; have hp2 := hp; simp only [c_Turn, z_Turn, Int.natCast_add] at hk2 hp2
    simp (disch := omega) only [L_w_heldTurnS_1, ilt_mid, ix_mid, getD_mid, iadd_ok, ilt_f, feq_fofInt, opt_bind_some, cond_t, cond_f, bnot_t, bnot_f, cond_same, ieq_self, beqB_self]
    simp (disch := omega) only [c_Turn, m_Turn, z_Turn, opt_bind_some, ilt_f, feq_fofInt, opt_bind_some, cond_t, cond_f, bnot_t, bnot_f, cond_same, ieq_self, beqB_self, Int.natCast_add, Int.cast_ofNat_Int, Int.add_assoc, Int.reduceAdd, Int.natCast_one]) (fun rec' a k t => by simp only [L_w_heldTurnS_1, ilt_end, cond_f]) a [] fuel k 0 (fun x hx => Nat.le_trans (szL_mem hx) h) h0 hk (by simp only [List.nil_append, mkL_length]; omega) (by unfold fuel; omega)
  simp only [List.nil_append, List.length_nil] at this
  rw [show ((0 : Nat) : Int) = 0 from rfl] at this
  rw [this]
  rfl
theorem c_w_heldPose (a : dPose) (k : Int) (h : z_Pose a ≤ 1073741824) (h0 : 0 ≤ k) (hk : k + cv_Pose a < 4611686018427387904) : g_w_heldPose (mv_Pose a k) k = some (k + cv_Pose a) := by
  unfold z_Pose at h; unfold cv_Pose at hk; unfold g_w_heldPose
  try simp only [Int.natCast_add] at hk
  simp (disch := omega) only [mv_Pose, opt_bind_some, c_w_heldTurnS, ilt_f, cond_f, cv_Pose, Int.natCast_add, Int.add_assoc]
def c_Bool (_ : Bool) : Nat := 1
def m_Bool (_ : Bool) (k : Int) : Bool := ieq (irem .i64 k 3) 0
def z_Bool (_ : Bool) : Nat := 0
theorem b1_Bool (x : Bool) : c_Bool x ≤ 16 * (1 + z_Bool x) := by unfold c_Bool z_Bool; omega
def c_BoolS (x : (List Bool)) : Nat := sumL c_Bool x
def m_BoolS (x : (List Bool)) (k : Int) : (List Bool) := mkL m_Bool c_Bool x k
def z_BoolS (x : (List Bool)) : Nat := szL z_Bool x
theorem b_BoolS (x : (List Bool)) : c_BoolS x ≤ 16 * z_BoolS x := sumL_le b1_Bool x
theorem b1_BoolS (x : (List Bool)) : c_BoolS x ≤ 16 * (1 + z_BoolS x) := by have := b_BoolS x; omega
theorem c_w_szBoolS (a : (List Bool)) (left : Int) (hok : Ty.ok (.slice .bool) a) (h1 : -1 ≤ left) (h2 : left < 4611686018427387904) : t_w_szBoolS a left = (if (szL z_Bool a : Int) ≤ left then left - szL z_Bool a else -1) := by
  have hl : a.length ≤ 9223372036854775807 := hok.1
  unfold t_w_szBoolS
  rw [show szL z_Bool a = a.length from szL_zero a]
  rw [isub_ok (by omega) (by omega)]
  by_cases hc : (a.length : Int) ≤ left
  · rw [if_pos hc, ilt_f (by omega)]; rfl
  · rw [if_neg hc, ilt_t (by omega)]; rfl
theorem c_w_szFloat32S (a : (List Nat)) (left : Int) (hok : Ty.ok (.slice (.flt .f32)) a) (h1 : -1 ≤ left) (h2 : left < 4611686018427387904) : t_w_szFloat32S a left = (if (szL z_F32 a : Int) ≤ left then left - szL z_F32 a else -1) := by
  have hl : a.length ≤ 9223372036854775807 := hok.1
  unfold t_w_szFloat32S
  rw [show szL z_F32 a = a.length from szL_zero a]
  rw [isub_ok (by omega) (by omega)]
  by_cases hc : (a.length : Int) ≤ left
  · rw [if_pos hc, ilt_f (by omega)]; rfl
  · rw [if_neg hc, ilt_t (by omega)]; rfl
def c_String (x : dString) : Nat := 5 + sumL c_Vec x.1 + sumL c_Vec x.2.1 + sumL c_Bool x.2.2.1 + sumL c_F32 x.2.2.2.1
def m_String (x : dString) (k : Int) : dString := (mkL m_Vec c_Vec x.1 (k), (mkL m_Vec c_Vec x.2.1 (k + (sumL c_Vec x.1 : Nat)), (mkL m_Bool c_Bool x.2.2.1 (k + (sumL c_Vec x.1 : Nat) + (sumL c_Vec x.2.1 : Nat)), (mkL m_F32 c_F32 x.2.2.2.1 (k + (sumL c_Vec x.1 : Nat) + (sumL c_Vec x.2.1 : Nat) + (sumL c_Bool x.2.2.1 : Nat)), ((fofInt .f32 (k + (sumL c_Vec x.1 : Nat) + (sumL c_Vec x.2.1 : Nat) + (sumL c_Bool x.2.2.1 : Nat) + (sumL c_F32 x.2.2.2.1 : Nat)), (fofInt .f32 (k + (sumL c_Vec x.1 : Nat) + (sumL c_Vec x.2.1 : Nat) + (sumL c_Bool x.2.2.1 : Nat) + (sumL c_F32 x.2.2.2.1 : Nat) + 1), (fofInt .f32 (k + (sumL c_Vec x.1 : Nat) + (sumL c_Vec x.2.1 : Nat) + (sumL c_Bool x.2.2.1 : Nat) + (sumL c_F32 x.2.2.2.1 : Nat) + 1 + 1), ()))), (fofInt .f32 (k + (sumL c_Vec x.1 : Nat) + (sumL c_Vec x.2.1 : Nat) + (sumL c_Bool x.2.2.1 : Nat) + (sumL c_F32 x.2.2.2.1 : Nat) + 1 + 1 + 1), (k + (sumL c_Vec x.1 : Nat) + (sumL c_Vec x.2.1 : Nat) + (sumL c_Bool x.2.2.1 : Nat) + (sumL c_F32 x.2.2.2.1 : Nat) + 1 + 1 + 1 + 1, ())))))))
def z_String (x : dString) : Nat := szL z_Vec x.1 + szL z_Vec x.2.1 + szL z_Bool x.2.2.1 + szL z_F32 x.2.2.2.1
def cv_String (x : dString) : Nat := sumL c_Vec x.1 + sumL c_Vec x.2.1 + sumL c_Bool x.2.2.1 + sumL c_F32 x.2.2.2.1
def mv_String (x : dString) (k : Int) : dString := (mkL m_Vec c_Vec x.1 (k), (mkL m_Vec c_Vec x.2.1 (k + (sumL c_Vec x.1 : Nat)), (mkL m_Bool c_Bool x.2.2.1 (k + (sumL c_Vec x.1 : Nat) + (sumL c_Vec x.2.1 : Nat)), (mkL m_F32 c_F32 x.2.2.2.1 (k + (sumL c_Vec x.1 : Nat) + (sumL c_Vec x.2.1 : Nat) + (sumL c_Bool x.2.2.1 : Nat)), ((x.2.2.2.2.1.1, (x.2.2.2.2.1.2.1, (x.2.2.2.2.1.2.2.1, ()))), (x.2.2.2.2.2.1, (x.2.2.2.2.2.2.1, ())))))))
theorem b1_String (x : dString) : c_String x ≤ 16 * (1 + z_String x) := by have := sumL_le b1_Vec x.1; have := sumL_le b1_Vec x.2.1; have := sumL_le b1_Bool x.2.2.1; have := sumL_le b1_F32 x.2.2.2.1; unfold c_String z_String; omega
theorem bv_String (x : dString) : cv_String x ≤ 16 * z_String x := by have := sumL_le b1_Vec x.1; have := sumL_le b1_Vec x.2.1; have := sumL_le b1_Bool x.2.2.1; have := sumL_le b1_F32 x.2.2.2.1; unfold cv_String z_String; omega
theorem c_w_szString (a : dString) (left : Int) (hok : Ty.ok tString a) (h1 : -1 ≤ left) (h2 : left < 4611686018427387904) : t_w_szString a left = (if (z_String a : Int) ≤ left then left - z_String a else -1) := by
  unfold z_String
  obtain ⟨o0, o1, o2, o3, o4, o5, o6, _⟩ := hok
  unfold t_w_szString
  try dsimp only
  have e0 : -1 ≤ left := h1
  have f0 := fun (l : Int) h1 h2 => c_w_szVectorS a.1 l o0 h1 h2
  have f1 := fun (l : Int) h1 h2 => c_w_szVectorS a.2.1 l o1 h1 h2
  have f2 := fun (l : Int) h1 h2 => c_w_szBoolS a.2.2.1 l o2 h1 h2
  have f3 := fun (l : Int) h1 h2 => c_w_szFloat32S a.2.2.2.1 l o3 h1 h2
  have r0 := f0 (left) (by omega) (by omega)
  by_cases c0 : ((szL z_Vec a.1 : Nat) : Int) ≤ left
  · rw [if_pos c0] at r0
    simp (disch := omega) only [r0, opt_bind_some, ilt_f, cond_f]
    have r1 := f1 (left - (szL z_Vec a.1 : Nat)) (by omega) (by omega)
    by_cases c1 : ((szL z_Vec a.2.1 : Nat) : Int) ≤ left - (szL z_Vec a.1 : Nat)
    · rw [if_pos c1] at r1
      simp (disch := omega) only [r1, opt_bind_some, ilt_f, cond_f]
      have r2 := f2 (left - (szL z_Vec a.1 : Nat) - (szL z_Vec a.2.1 : Nat)) (by omega) (by omega)
      by_cases c2 : ((szL z_Bool a.2.2.1 : Nat) : Int) ≤ left - (szL z_Vec a.1 : Nat) - (szL z_Vec a.2.1 : Nat)
      · rw [if_pos c2] at r2
        simp (disch := omega) only [r2, opt_bind_some, ilt_f, cond_f]
        have r3 := f3 (left - (szL z_Vec a.1 : Nat) - (szL z_Vec a.2.1 : Nat) - (szL z_Bool a.2.2.1 : Nat)) (by omega) (by omega)
        by_cases c3 : ((szL z_F32 a.2.2.2.1 : Nat) : Int) ≤ left - (szL z_Vec a.1 : Nat) - (szL z_Vec a.2.1 : Nat) - (szL z_Bool a.2.2.1 : Nat)
        · rw [if_pos c3] at r3
          simp (disch := omega) only [r3, opt_bind_some, ilt_f, cond_f]
          all_goals first | rw [if_pos (by omega)] | skip
          all_goals first | (simp only [opt_bind_some, cond_f, cond_t]; done) | (congr 1; omega) | (simp only [opt_bind_some, cond_f]; congr 1; omega) | omega
        · rw [if_neg c3] at r3
          rw [if_neg (by omega)]
          simp only [r3, opt_bind_some, show ilt (-1) 0 = true from rfl, cond_t]
      · rw [if_neg c2] at r2
        rw [if_neg (by omega)]
        have r3 := f3 (-1) (by omega) (by omega); rw [if_neg (by omega)] at r3
        simp only [r2, opt_bind_some, show ilt (-1) 0 = true from rfl, cond_t]
    · rw [if_neg c1] at r1
      rw [if_neg (by omega)]
      have r2 := f2 (-1) (by omega) (by omega); rw [if_neg (by omega)] at r2
      have r3 := f3 (-1) (by omega) (by omega); rw [if_neg (by omega)] at r3
      simp only [r1, opt_bind_some, show ilt (-1) 0 = true from rfl, cond_t]
  · rw [if_neg c0] at r0
    rw [if_neg (by omega)]
    have r1 := f1 (-1) (by omega) (by omega); rw [if_neg (by omega)] at r1
    have r2 := f2 (-1) (by omega) (by omega); rw [if_neg (by omega)] at r2
    have r3 := f3 (-1) (by omega) (by omega); rw [if_neg (by omega)] at r3
    simp only [r0, opt_bind_some, show ilt (-1) 0 = true from rfl, cond_t]
theorem c_w_toBoolS (a : (List Bool)) (h : szL z_Bool a ≤ 1073741824) : g_w_toBoolS a = some (a) := by
  have hl := szL_len (s := z_Bool) a
  unfold g_w_toBoolS
  rw [mkOk_t (by omega) (by omega) (by omega), cond_t]
  have := to_loop (step := L_w_toBoolS_1) (z := false) (p := fun x => z_Bool x ≤ 1073741824) (fun rec' pre x suf r hp hb => by
    have hb2 := hb; rw [List.length_append, List.length_cons] at hb2; have hp2 := hp; try unfold z_Bool at hp2
    simp (disch := first | omega | assumption) only [L_w_toBoolS_1, ilt_mid, ix_mid, getD_mid, set_mid, iadd_ok, opt_bind_some, cond_t, cond_f, bnot_t, bnot_f, cond_same, ieq_self, beqB_self]) (fun rec' a => by simp only [L_w_toBoolS_1, ilt_end, cond_f]) a [] fuel (fun x hx => Nat.le_trans (szL_mem hx) h) (by simp only [List.nil_append]; omega) (by unfold fuel; omega)
  simp only [List.nil_append, List.length_nil] at this
  rw [show ((0 : Nat) : Int) = 0 from rfl] at this
  first | rw [this] | (simp only [z_consts] at this ⊢; rw [this])
  rfl
theorem c_w_toString (a : dString) (h : z_String a ≤ 1073741824) : g_w_toString a = some (a) := by
  unfold z_String at h; unfold g_w_toString; simp (disch := omega) only [opt_bind_some, cond_t, cond_f, bnot_t, bnot_f, cond_same, ieq_self, beqB_self, c_w_toVectorS, c_w_toBoolS, c_w_toFloat32S, c_w_toVector]
theorem c_w_eqBoolS (a : (List Bool)) (h : szL z_Bool a ≤ 1073741824) : g_w_eqBoolS a a = some true := by
  have hl := szL_len (s := z_Bool) a
  unfold g_w_eqBoolS
  rw [ieq_self, bnot_t, cond_f]
  have := eq_loop (step := L_w_eqBoolS_1) (p := fun x => z_Bool x ≤ 1073741824) (fun rec' pre x suf t hp hb => by
    have hb2 := hb; rw [List.length_append, List.length_cons] at hb2; have hp2 := hp; try unfold z_Bool at hp2
    simp (disch := first | omega | assumption) only [L_w_eqBoolS_1, ilt_mid, ix_mid, getD_mid, iadd_ok, opt_bind_some, cond_t, cond_f, bnot_t, bnot_f, cond_same, ieq_self, beqB_self]) (fun rec' a t => by simp only [L_w_eqBoolS_1, ilt_end, cond_f]) a [] fuel false (fun x hx => Nat.le_trans (szL_mem hx) h) (by simp only [List.nil_append]; omega) (by unfold fuel; omega)
  simp only [List.nil_append, List.length_nil] at this
  rw [show ((0 : Nat) : Int) = 0 from rfl] at this
  rw [this]
  rfl
theorem c_w_eqString (a : dString) (h : z_String a ≤ 1073741824) : g_w_eqString a a = some true := by
  unfold z_String at h; unfold g_w_eqString; simp (disch := omega) only [opt_bind_some, cond_t, cond_f, bnot_t, bnot_f, cond_same, ieq_self, beqB_self, c_w_eqVectorS, c_w_eqBoolS, c_w_eqFloat32S, c_w_eqVector, c_w_sameFloat]
theorem c_w_szTurnS (a : (List dTurn)) (left : Int) (hok : Ty.ok (.slice tTurn) a) (h1 : -1 ≤ left) (h2 : left < 4611686018427387904) : t_w_szTurnS a left = (if (szL z_Turn a : Int) ≤ left then left - szL z_Turn a else -1) := by
  have hl : a.length ≤ 9223372036854775807 := hok.1
  unfold t_w_szTurnS
  rw [show szL z_Turn a = a.length from szL_zero a]
  rw [isub_ok (by omega) (by omega)]
  by_cases hc : (a.length : Int) ≤ left
  · rw [if_pos hc, ilt_f (by omega)]; rfl
  · rw [if_neg hc, ilt_t (by omega)]; rfl
theorem c_w_szPose (a : dPose) (left : Int) (hok : Ty.ok tPose a) (h1 : -1 ≤ left) (h2 : left < 4611686018427387904) : t_w_szPose a left = (if (z_Pose a : Int) ≤ left then left - z_Pose a else -1) := by
  unfold z_Pose
  obtain ⟨o0, o1, _⟩ := hok
  unfold t_w_szPose
  try dsimp only
  have e0 : -1 ≤ left := h1
  have f0 := fun (l : Int) h1 h2 => c_w_szTurnS a.2.1 l o1 h1 h2
  have r0 := f0 (left) (by omega) (by omega)
  by_cases c0 : ((szL z_Turn a.2.1 : Nat) : Int) ≤ left
  · rw [if_pos c0] at r0
    simp (disch := omega) only [r0, opt_bind_some, ilt_f, cond_f]
    all_goals first | rw [if_pos (by omega)] | skip
    all_goals first | (simp only [opt_bind_some, cond_f, cond_t]; done) | (congr 1; omega) | (simp only [opt_bind_some, cond_f]; congr 1; omega) | omega
  · rw [if_neg c0] at r0
    rw [if_neg (by omega)]
    simp only [r0, opt_bind_some, show ilt (-1) 0 = true from rfl, cond_t]
theorem c_w_toTurn (a : dTurn) : t_w_toTurn a = a := rfl
theorem c_w_toTurnS (a : (List dTurn)) (h : szL z_Turn a ≤ 1073741824) : g_w_toTurnS a = some (a) := by
  have hl := szL_len (s := z_Turn) a
  unfold g_w_toTurnS
  rw [mkOk_t (by omega) (by omega) (by omega), cond_t]
  have := to_loop (step := L_w_toTurnS_1) (z := zTurn) (p := fun x => z_Turn x ≤ 1073741824) (fun rec' pre x suf r hp hb => by
    have hb2 := hb; rw [List.length_append, List.length_cons] at hb2; have hp2 := hp; try unfold z_Turn at hp2
    simp (disch := first | omega | assumption) only [L_w_toTurnS_1, ilt_mid, ix_mid, getD_mid, set_mid, iadd_ok, opt_bind_some, cond_t, cond_f, bnot_t, bnot_f, cond_same, ieq_self, beqB_self, c_w_toTurn]) (fun rec' a => by simp only [L_w_toTurnS_1, ilt_end, cond_f]) a [] fuel (fun x hx => Nat.le_trans (szL_mem hx) h) (by simp only [List.nil_append]; omega) (by unfold fuel; omega)
  simp only [List.nil_append, List.length_nil] at this
  rw [show ((0 : Nat) : Int) = 0 from rfl] at this
  first | rw [this] | (simp only [z_consts] at this ⊢; rw [this])
  rfl
theorem c_w_toPose (a : dPose) (h : z_Pose a ≤ 1073741824) : g_w_toPose a = some (a) := by
  unfold z_Pose at h; unfold g_w_toPose; simp (disch := omega) only [opt_bind_some, cond_t, cond_f, bnot_t, bnot_f, cond_same, ieq_self, beqB_self, c_w_toVector, c_w_toTurnS]
def c_PoseS (x : (List dPose)) : Nat := sumL c_Pose x
def m_PoseS (x : (List dPose)) (k : Int) : (List dPose) := mkL m_Pose c_Pose x k
def z_PoseS (x : (List dPose)) : Nat := szL z_Pose x
theorem b_PoseS (x : (List dPose)) : c_PoseS x ≤ 16 * z_PoseS x := sumL_le b1_Pose x
theorem b1_PoseS (x : (List dPose)) : c_PoseS x ≤ 16 * (1 + z_PoseS x) := by have := b_PoseS x; omega
theorem c_w_szPoseS (a : (List dPose)) (left : Int) (hok : Ty.ok (.slice tPose) a) (h1 : -1 ≤ left) (h2 : left < 4611686018427387904) : g_w_szPoseS a left = some ((if (szL z_Pose a : Int) ≤ left then left - szL z_Pose a else -1)) := by
  have hl : a.length ≤ 9223372036854775807 := hok.1
  unfold g_w_szPoseS
  rw [isub_ok (by omega) (by omega), szL_sum]
  by_cases hc : (a.length : Int) ≤ left
  · rw [ilt_f (by omega), cond_f]
    have := sz_loop (step := L_w_szPoseS_1) (s := z_Pose) (p := fun x => Ty.ok tPose x) (fun rec' pre x suf left t hp h0 h3 hb => by
      have hb2 := hb; rw [List.length_append, List.length_cons] at hb2
      have hs : t_w_szPose x left = (if (z_Pose x : Int) ≤ left then left - z_Pose x else -1) := c_w_szPose x left hp (by omega) (by omega)
      simp (disch := omega) only [L_w_szPoseS_1, ilt_mid, ix_mid, getD_mid, iadd_ok, opt_bind_some, cond_t, hs]
      by_cases hd : (z_Pose x : Int) ≤ left
      · simp only [if_pos hd]; rw [ilt_f (by omega)]; rfl
      · simp only [if_neg hd]; try rfl) (fun rec' a left t => by simp only [L_w_szPoseS_1, ilt_end, cond_f]) a [] fuel (left - a.length) 0 (fun x hx => hok.2 x hx) (by omega) (by omega) (by simp only [List.nil_append]; omega) (by unfold fuel; omega)
    simp only [List.nil_append, List.length_nil] at this
    rw [show ((0 : Nat) : Int) = 0 from rfl] at this
    rw [this]
    by_cases hd : (sumL z_Pose a : Int) ≤ left - a.length
    · have hd' : ((a.length + sumL z_Pose a : Nat) : Int) ≤ left := by omega
      simp only [hd, hd', if_true]; simp only [opt_bind_some, cond_f, Int.natCast_add, Int.sub_sub]
    · have hd' : ¬ ((a.length + sumL z_Pose a : Nat) : Int) ≤ left := by omega
      simp only [hd, hd', if_false]; rfl
  · have hd' : ¬ ((a.length + sumL z_Pose a : Nat) : Int) ≤ left := by omega
    rw [ilt_t (by omega)]; simp only [hd', if_false]; rfl
def c_Rec (x : dRec) : Nat := 1 + sumL c_Pose x.2.1
def m_Rec (x : dRec) (k : Int) : dRec := (k, (mkL m_Pose c_Pose x.2.1 (k + 1), ()))
def z_Rec (x : dRec) : Nat := szL z_Pose x.2.1
def cv_Rec (x : dRec) : Nat := sumL c_Pose x.2.1
def mv_Rec (x : dRec) (k : Int) : dRec := (x.1, (mkL m_Pose c_Pose x.2.1 (k), ()))
theorem b1_Rec (x : dRec) : c_Rec x ≤ 16 * (1 + z_Rec x) := by have := sumL_le b1_Pose x.2.1; unfold c_Rec z_Rec; omega
theorem bv_Rec (x : dRec) : cv_Rec x ≤ 16 * z_Rec x := by have := sumL_le b1_Pose x.2.1; unfold cv_Rec z_Rec; omega
theorem c_w_szRecording (a : dRec) (left : Int) (hok : Ty.ok tRec a) (h1 : -1 ≤ left) (h2 : left < 4611686018427387904) : g_w_szRecording a left = some ((if (z_Rec a : Int) ≤ left then left - z_Rec a else -1)) := by
  unfold z_Rec
  obtain ⟨o0, o1, _⟩ := hok
  unfold g_w_szRecording
  try dsimp only
  have e0 : -1 ≤ left := h1
  have f0 := fun (l : Int) h1 h2 => c_w_szPoseS a.2.1 l o1 h1 h2
  have r0 := f0 (left) (by omega) (by omega)
  by_cases c0 : ((szL z_Pose a.2.1 : Nat) : Int) ≤ left
  · rw [if_pos c0] at r0
    simp (disch := omega) only [r0, opt_bind_some, ilt_f, cond_f]
    all_goals first | rw [if_pos (by omega)] | skip
    all_goals first | (simp only [opt_bind_some, cond_f, cond_t]; done) | (congr 1; omega) | (simp only [opt_bind_some, cond_f]; congr 1; omega) | omega
  · rw [if_neg c0] at r0
    rw [if_neg (by omega)]
    simp only [r0, opt_bind_some, show ilt (-1) 0 = true from rfl, cond_t]
theorem c_w_toPoseS (a : (List dPose)) (h : szL z_Pose a ≤ 1073741824) : g_w_toPoseS a = some (a) := by
  have hl := szL_len (s := z_Pose) a
  unfold g_w_toPoseS
  rw [mkOk_t (by omega) (by omega) (by omega), cond_t]
  have := to_loop (step := L_w_toPoseS_1) (z := zPose) (p := fun x => z_Pose x ≤ 1073741824) (fun rec' pre x suf r hp hb => by
    have hb2 := hb; rw [List.length_append, List.length_cons] at hb2; have hp2 := hp; try unfold z_Pose at hp2
    simp (disch := first | omega | assumption) only [L_w_toPoseS_1, ilt_mid, ix_mid, getD_mid, set_mid, iadd_ok, opt_bind_some, cond_t, cond_f, bnot_t, bnot_f, cond_same, ieq_self, beqB_self, c_w_toPose]) (fun rec' a => by simp only [L_w_toPoseS_1, ilt_end, cond_f]) a [] fuel (fun x hx => Nat.le_trans (szL_mem hx) h) (by simp only [List.nil_append]; omega) (by unfold fuel; omega)
  simp only [List.nil_append, List.length_nil] at this
  rw [show ((0 : Nat) : Int) = 0 from rfl] at this
  first | rw [this] | (simp only [z_consts] at this ⊢; rw [this])
  rfl
theorem c_w_toRecording (a : dRec) (h : z_Rec a ≤ 1073741824) : g_w_toRecording a = some (a) := by
  unfold z_Rec at h; unfold g_w_toRecording; simp (disch := omega) only [opt_bind_some, cond_t, cond_f, bnot_t, bnot_f, cond_same, ieq_self, beqB_self, c_w_toPoseS]
theorem c_w_eqPoseS (a : (List dPose)) (h : szL z_Pose a ≤ 1073741824) : g_w_eqPoseS a a = some true := by
  have hl := szL_len (s := z_Pose) a
  unfold g_w_eqPoseS
  rw [ieq_self, bnot_t, cond_f]
  have := eq_loop (step := L_w_eqPoseS_1) (p := fun x => z_Pose x ≤ 1073741824) (fun rec' pre x suf t hp hb => by
    have hb2 := hb; rw [List.length_append, List.length_cons] at hb2; have hp2 := hp; try unfold z_Pose at hp2
    simp (disch := first | omega | assumption) only [L_w_eqPoseS_1, ilt_mid, ix_mid, getD_mid, iadd_ok, opt_bind_some, cond_t, cond_f, bnot_t, bnot_f, cond_same, ieq_self, beqB_self, c_w_eqPose]) (fun rec' a t => by simp only [L_w_eqPoseS_1, ilt_end, cond_f]) a [] fuel false (fun x hx => Nat.le_trans (szL_mem hx) h) (by simp only [List.nil_append]; omega) (by unfold fuel; omega)
  simp only [List.nil_append, List.length_nil] at this
  rw [show ((0 : Nat) : Int) = 0 from rfl] at this
  rw [this]
  rfl
theorem c_w_eqRecording (a : dRec) (h : z_Rec a ≤ 1073741824) : g_w_eqRecording a a = some true := by
  unfold z_Rec at h; unfold g_w_eqRecording; simp (disch := omega) only [opt_bind_some, cond_t, cond_f, bnot_t, bnot_f, cond_same, ieq_self, beqB_self, c_w_eqPoseS]
theorem c_w_szInt64S (a : (List Int)) (left : Int) (hok : Ty.ok (.slice (.int .i64)) a) (h1 : -1 ≤ left) (h2 : left < 4611686018427387904) : t_w_szInt64S a left = (if (szL z_I64 a : Int) ≤ left then left - szL z_I64 a else -1) := by
  have hl : a.length ≤ 9223372036854775807 := hok.1
  unfold t_w_szInt64S
  rw [show szL z_I64 a = a.length from szL_zero a]
  rw [isub_ok (by omega) (by omega)]
  by_cases hc : (a.length : Int) ≤ left
  · rw [if_pos hc, ilt_f (by omega)]; rfl
  · rw [if_neg hc, ilt_t (by omega)]; rfl
theorem c_w_szInt64SS (a : (List (List Int))) (left : Int) (hok : Ty.ok (.slice (.slice (.int .i64))) a) (h1 : -1 ≤ left) (h2 : left < 4611686018427387904) : g_w_szInt64SS a left = some ((if (szL z_I64S a : Int) ≤ left then left - szL z_I64S a else -1)) := by
  have hl : a.length ≤ 9223372036854775807 := hok.1
  unfold g_w_szInt64SS
  rw [isub_ok (by omega) (by omega), szL_sum]
  by_cases hc : (a.length : Int) ≤ left
  · rw [ilt_f (by omega), cond_f]
    have := sz_loop (step := L_w_szInt64SS_1) (s := z_I64S) (p := fun x => Ty.ok (.slice (.int .i64)) x) (fun rec' pre x suf left t hp h0 h3 hb => by
      have hb2 := hb; rw [List.length_append, List.length_cons] at hb2
      have hs : t_w_szInt64S x left = (if (z_I64S x : Int) ≤ left then left - z_I64S x else -1) := c_w_szInt64S x left hp (by omega) (by omega)
      simp (disch := omega) only [L_w_szInt64SS_1, ilt_mid, ix_mid, getD_mid, iadd_ok, opt_bind_some, cond_t, hs]
      by_cases hd : (z_I64S x : Int) ≤ left
      · simp only [if_pos hd]; rw [ilt_f (by omega)]; rfl
      · simp only [if_neg hd]; try rfl) (fun rec' a left t => by simp only [L_w_szInt64SS_1, ilt_end, cond_f]) a [] fuel (left - a.length) 0 (fun x hx => hok.2 x hx) (by omega) (by omega) (by simp only [List.nil_append]; omega) (by unfold fuel; omega)
    simp only [List.nil_append, List.length_nil] at this
    rw [show ((0 : Nat) : Int) = 0 from rfl] at this
    rw [this]
    by_cases hd : (sumL z_I64S a : Int) ≤ left - a.length
    · have hd' : ((a.length + sumL z_I64S a : Nat) : Int) ≤ left := by omega
      simp only [hd, hd', if_true]; simp only [opt_bind_some, cond_f, Int.natCast_add, Int.sub_sub]
    · have hd' : ¬ ((a.length + sumL z_I64S a : Nat) : Int) ≤ left := by omega
      simp only [hd, hd', if_false]; rfl
  · have hd' : ¬ ((a.length + sumL z_I64S a : Nat) : Int) ≤ left := by omega
    rw [ilt_t (by omega)]; simp only [hd', if_false]; rfl
theorem c_w_toInt64S (a : (List Int)) (h : szL z_I64 a ≤ 1073741824) : g_w_toInt64S a = some (a) := by
  have hl := szL_len (s := z_I64) a
  unfold g_w_toInt64S
  rw [mkOk_t (by omega) (by omega) (by omega), cond_t]
  have := to_loop (step := L_w_toInt64S_1) (z := (0 : Int)) (p := fun x => z_I64 x ≤ 1073741824) (fun rec' pre x suf r hp hb => by
    have hb2 := hb; rw [List.length_append, List.length_cons] at hb2; have hp2 := hp; try unfold z_I64 at hp2
    simp (disch := first | omega | assumption) only [L_w_toInt64S_1, ilt_mid, ix_mid, getD_mid, set_mid, iadd_ok, opt_bind_some, cond_t, cond_f, bnot_t, bnot_f, cond_same, ieq_self, beqB_self]) (fun rec' a => by simp only [L_w_toInt64S_1, ilt_end, cond_f]) a [] fuel (fun x hx => Nat.le_trans (szL_mem hx) h) (by simp only [List.nil_append]; omega) (by unfold fuel; omega)
  simp only [List.nil_append, List.length_nil] at this
  rw [show ((0 : Nat) : Int) = 0 from rfl] at this
  first | rw [this] | (simp only [z_consts] at this ⊢; rw [this])
  rfl
theorem c_w_toInt64SS (a : (List (List Int))) (h : szL z_I64S a ≤ 1073741824) : g_w_toInt64SS a = some (a) := by
  have hl := szL_len (s := z_I64S) a
  unfold g_w_toInt64SS
  rw [mkOk_t (by omega) (by omega) (by omega), cond_t]
  have := to_loop (step := L_w_toInt64SS_1) (z := []) (p := fun x => z_I64S x ≤ 1073741824) (fun rec' pre x suf r hp hb => by
    have hb2 := hb; rw [List.length_append, List.length_cons] at hb2; have hp2 := hp; try unfold z_I64S at hp2
    simp (disch := first | omega | assumption) only [L_w_toInt64SS_1, ilt_mid, ix_mid, getD_mid, set_mid, iadd_ok, opt_bind_some, cond_t, cond_f, bnot_t, bnot_f, cond_same, ieq_self, beqB_self, c_w_toInt64S]) (fun rec' a => by simp only [L_w_toInt64SS_1, ilt_end, cond_f]) a [] fuel (fun x hx => Nat.le_trans (szL_mem hx) h) (by simp only [List.nil_append]; omega) (by unfold fuel; omega)
  simp only [List.nil_append, List.length_nil] at this
  rw [show ((0 : Nat) : Int) = 0 from rfl] at this
  first | rw [this] | (simp only [z_consts] at this ⊢; rw [this])
  rfl
theorem c_w_markVectorS (a : (List dVec)) (k : Int) (h : szL z_Vec a ≤ 1073741824) (h0 : 0 ≤ k) (hk : k + sumL c_Vec a < 4611686018427387904) : g_w_markVectorS a k = some (k + sumL c_Vec a, (mkL m_Vec c_Vec a k, (k, ()))) := by
  have hl := szL_len (s := z_Vec) a
  unfold g_w_markVectorS
  have := mark_loop (step := L_w_markVectorS_1) (m := m_Vec) (c := c_Vec) (p := fun x => z_Vec x ≤ 1073741824) (fun rec' pre x suf k hp h0 hk hb => by
    have hb2 := hb; rw [List.length_append, List.length_cons] at hb2; have hk2 := hk; have hp2 := hp; simp only [c_Vec, z_Vec, Int.natCast_add] at hk2 hp2
    simp (disch := omega) only [L_w_markVectorS_1, ilt_mid, ix_mid, getD_mid, set_mid, iadd_ok, opt_bind_some, cond_t, cond_f, bnot_t, bnot_f, cond_same, ieq_self, beqB_self]
    simp only [c_Vec, m_Vec, z_Vec, Int.natCast_add, Int.cast_ofNat_Int, Int.add_assoc, Int.reduceAdd, Int.natCast_one]) (fun rec' a k => by simp only [L_w_markVectorS_1, ilt_end, cond_f]) a [] fuel k (fun x hx => Nat.le_trans (szL_mem hx) h) h0 hk (by simp only [List.nil_append]; omega) (by unfold fuel; omega)
  simp only [List.nil_append, List.length_nil] at this
  rw [show ((0 : Nat) : Int) = 0 from rfl] at this
  rw [this]
  rfl
end Go.Fw
