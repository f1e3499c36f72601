/- What the laws' own functions compute. No condition. -/
import Derived.Test.YtalhiopcegnobaaFwE
import Derived.Test.YtalhiopcegnobaaAPure
set_option linter.unusedVariables false
set_option linter.unusedSimpArgs false
namespace Go.Fw
def c_F32 (_ : Nat) : Nat := 1
def m_F32 (_ : Nat) (k : Int) : Nat := fofInt .f32 k
def z_F32 (_ : Nat) : Nat := 0
theorem b1_F32 (x : Nat) : c_F32 x ≤ 16 * (1 + z_F32 x) := by unfold c_F32 z_F32; omega
theorem c_w_sameFloat (a : Nat) : t_w_sameFloat a a = true := by
  unfold t_w_sameFloat; cases feq .f64 a a <;> cases feq .f64 a 0 <;> simp [beqB_self]
theorem c_w_eqFloat32S (a : (List Nat)) (h : szL z_F32 a ≤ 1073741824) : g_w_eqFloat32S a a = some true := by
  have hl := szL_len (s := z_F32) a
  unfold g_w_eqFloat32S
  rw [ieq_self, bnot_t, cond_f]
  have := eq_loop (step := L_w_eqFloat32S_1) (p := fun x => z_F32 x ≤ 1073741824) (fun rec' pre x suf t hp hb => by
    have hb2 := hb; rw [List.length_append, List.length_cons] at hb2; have hp2 := hp; try unfold z_F32 at hp2
    simp (disch := first | omega | assumption) only [L_w_eqFloat32S_1, ilt_mid, ix_mid, getD_mid, iadd_ok, opt_bind_some, cond_t, cond_f, bnot_t, bnot_f, cond_same, ieq_self, beqB_self, c_w_sameFloat]) (fun rec' a t => by simp only [L_w_eqFloat32S_1, ilt_end, cond_f]) a [] fuel false (fun x hx => Nat.le_trans (szL_mem hx) h) (by simp only [List.nil_append]; omega) (by unfold fuel; omega)
  simp only [List.nil_append, List.length_nil] at this
  rw [show ((0 : Nat) : Int) = 0 from rfl] at this
  rw [this]
  rfl
theorem c_w_markFloat32S (a : (List Nat)) (k : Int) (h : szL z_F32 a ≤ 1073741824) (h0 : 0 ≤ k) (hk : k + sumL c_F32 a < 4611686018427387904) : g_w_markFloat32S a k = some (k + sumL c_F32 a, (mkL m_F32 c_F32 a k, (k, ()))) := by
  have hl := szL_len (s := z_F32) a
  unfold g_w_markFloat32S
  have := mark_loop (step := L_w_markFloat32S_1) (m := m_F32) (c := c_F32) (p := fun x => z_F32 x ≤ 1073741824) (fun rec' pre x suf k hp h0 hk hb => by
    have hb2 := hb; rw [List.length_append, List.length_cons] at hb2; have hk2 := hk; simp only [c_F32] at hk2
    simp (disch := omega) only [L_w_markFloat32S_1, ilt_mid, ix_mid, getD_mid, set_mid, iadd_ok, opt_bind_some, cond_t, cond_f, bnot_t, bnot_f, cond_same, ieq_self, beqB_self]
    simp only [c_F32, m_F32, z_F32, Int.natCast_add, Int.cast_ofNat_Int, Int.add_assoc, Int.reduceAdd, Int.natCast_one]) (fun rec' a k => by simp only [L_w_markFloat32S_1, ilt_end, cond_f]) a [] fuel k (fun x hx => Nat.le_trans (szL_mem hx) h) h0 hk (by simp only [List.nil_append]; omega) (by unfold fuel; omega)
  simp only [List.nil_append, List.length_nil] at this
  rw [show ((0 : Nat) : Int) = 0 from rfl] at this
  rw [this]
  rfl
theorem c_w_heldFloat32S (a : (List Nat)) (k : Int) (h : szL z_F32 a ≤ 1073741824) (h0 : 0 ≤ k) (hk : k + sumL c_F32 a < 4611686018427387904) : g_w_heldFloat32S (mkL m_F32 c_F32 a k) k = some (k + sumL c_F32 a) := by
  have hl := szL_len (s := z_F32) a
  unfold g_w_heldFloat32S
  have := held_loop (step := L_w_heldFloat32S_1) (m := m_F32) (c := c_F32) (p := fun x => z_F32 x ≤ 1073741824) (fun rec' pre x suf k t hp h0 hk hb => by
    have hb2 := hb; rw [List.length_append, List.length_cons] at hb2; have hk2 := hk; simp only [c_F32] at hk2
    simp (disch := omega) only [L_w_heldFloat32S_1, ilt_mid, ix_mid, getD_mid, iadd_ok, ilt_f, feq_fofInt, opt_bind_some, cond_t, cond_f, bnot_t, bnot_f, cond_same, ieq_self, beqB_self]
    simp (disch := omega) only [c_F32, m_F32, z_F32, opt_bind_some, ilt_f, feq_fofInt, opt_bind_some, cond_t, cond_f, bnot_t, bnot_f, cond_same, ieq_self, beqB_self, Int.natCast_add, Int.cast_ofNat_Int, Int.add_assoc, Int.reduceAdd, Int.natCast_one]) (fun rec' a k t => by simp only [L_w_heldFloat32S_1, ilt_end, cond_f]) a [] fuel k 0 (fun x hx => Nat.le_trans (szL_mem hx) h) h0 hk (by simp only [List.nil_append, mkL_length]; omega) (by unfold fuel; omega)
  simp only [List.nil_append, List.length_nil] at this
  rw [show ((0 : Nat) : Int) = 0 from rfl] at this
  rw [this]
  rfl
end Go.Fw
