/- What the laws' own functions compute. No condition. -/
import Derived.Test.YtobcfldhacdpiaaGreatFwE
import Derived.Test.YtobcfldhacdpiaaGreatAPure
set_option linter.unusedVariables false
set_option linter.unusedSimpArgs false
namespace Go.Fw
theorem c_w_sameFloat (a : Nat) : t_w_sameFloat a a = true := by
  unfold t_w_sameFloat; cases feq .f64 a a <;> cases feq .f64 a 0 <;> simp [beqB_self]
theorem c_w_eqVector (a : dVec) : t_w_eqVector a a = true := by
  unfold t_w_eqVector; simp only [opt_bind_some, cond_t, cond_f, bnot_t, bnot_f, cond_same, ieq_self, beqB_self, c_w_sameFloat]
def c_I64 (_ : Int) : Nat := 1
def m_I64 (_ : Int) (k : Int) : Int := k
def z_I64 (_ : Int) : Nat := 0
theorem b1_I64 (x : Int) : c_I64 x ≤ 16 * (1 + z_I64 x) := by unfold c_I64 z_I64; omega
theorem c_w_eqInt64S (a : (List Int)) (h : szL z_I64 a ≤ 1073741824) : g_w_eqInt64S a a = some true := by
  have hl := szL_len (s := z_I64) a
  unfold g_w_eqInt64S
  rw [ieq_self, bnot_t, cond_f]
  have := eq_loop (step := L_w_eqInt64S_1) (p := fun x => z_I64 x ≤ 1073741824) (fun rec' pre x suf t hp hb => by
    have hb2 := hb; rw [List.length_append, List.length_cons] at hb2; have hp2 := hp; try unfold z_I64 at hp2
    simp (disch := first | omega | assumption) only [L_w_eqInt64S_1, ilt_mid, ix_mid, getD_mid, iadd_ok, opt_bind_some, cond_t, cond_f, bnot_t, bnot_f, cond_same, ieq_self, beqB_self]) (fun rec' a t => by simp only [L_w_eqInt64S_1, ilt_end, cond_f]) a [] fuel false (fun x hx => Nat.le_trans (szL_mem hx) h) (by simp only [List.nil_append]; omega) (by unfold fuel; omega)
  simp only [List.nil_append, List.length_nil] at this
  rw [show ((0 : Nat) : Int) = 0 from rfl] at this
  rw [this]
  rfl
theorem c_w_markInt64S (a : (List Int)) (k : Int) (h : szL z_I64 a ≤ 1073741824) (h0 : 0 ≤ k) (hk : k + sumL c_I64 a < 4611686018427387904) : g_w_markInt64S a k = some (k + sumL c_I64 a, (mkL m_I64 c_I64 a k, (k, ()))) := by
  have hl := szL_len (s := z_I64) a
  unfold g_w_markInt64S
  have := mark_loop (step := L_w_markInt64S_1) (m := m_I64) (c := c_I64) (p := fun x => z_I64 x ≤ 1073741824) (fun rec' pre x suf k hp h0 hk hb => by
    have hb2 := hb; rw [List.length_append, List.length_cons] at hb2; have hk2 := hk; simp only [c_I64] at hk2
    simp (disch := omega) only [L_w_markInt64S_1, ilt_mid, ix_mid, getD_mid, set_mid, iadd_ok, opt_bind_some, cond_t, cond_f, bnot_t, bnot_f, cond_same, ieq_self, beqB_self]
    simp only [c_I64, m_I64, z_I64, Int.natCast_add, Int.cast_ofNat_Int, Int.add_assoc, Int.reduceAdd, Int.natCast_one]) (fun rec' a k => by simp only [L_w_markInt64S_1, ilt_end, cond_f]) a [] fuel k (fun x hx => Nat.le_trans (szL_mem hx) h) h0 hk (by simp only [List.nil_append]; omega) (by unfold fuel; omega)
  simp only [List.nil_append, List.length_nil] at this
  rw [show ((0 : Nat) : Int) = 0 from rfl] at this
  rw [this]
  rfl
theorem c_w_heldInt64S (a : (List Int)) (k : Int) (h : szL z_I64 a ≤ 1073741824) (h0 : 0 ≤ k) (hk : k + sumL c_I64 a < 4611686018427387904) : g_w_heldInt64S (mkL m_I64 c_I64 a k) k = some (k + sumL c_I64 a) := by
  have hl := szL_len (s := z_I64) a
  unfold g_w_heldInt64S
  have := held_loop (step := L_w_heldInt64S_1) (m := m_I64) (c := c_I64) (p := fun x => z_I64 x ≤ 1073741824) (fun rec' pre x suf k t hp h0 hk hb => by
    have hb2 := hb; rw [List.length_append, List.length_cons] at hb2; have hk2 := hk; simp only [c_I64] at hk2
    simp (disch := omega) only [L_w_heldInt64S_1, ilt_mid, ix_mid, getD_mid, iadd_ok, ilt_f, feq_fofInt, opt_bind_some, cond_t, cond_f, bnot_t, bnot_f, cond_same, ieq_self, beqB_self]
    simp (disch := omega) only [c_I64, m_I64, z_I64, opt_bind_some, ilt_f, feq_fofInt, opt_bind_some, cond_t, cond_f, bnot_t, bnot_f, cond_same, ieq_self, beqB_self, Int.natCast_add, Int.cast_ofNat_Int, Int.add_assoc, Int.reduceAdd, Int.natCast_one]) (fun rec' a k t => by simp only [L_w_heldInt64S_1, ilt_end, cond_f]) a [] fuel k 0 (fun x hx => Nat.le_trans (szL_mem hx) h) h0 hk (by simp only [List.nil_append, mkL_length]; omega) (by unfold fuel; omega)
  simp only [List.nil_append, List.length_nil] at this
  rw [show ((0 : Nat) : Int) = 0 from rfl] at this
  rw [this]
  rfl
theorem c_w_eqTurn (a : dTurn) : t_w_eqTurn a a = true := by
  unfold t_w_eqTurn; simp only [opt_bind_some, cond_t, cond_f, bnot_t, bnot_f, cond_same, ieq_self, beqB_self, c_w_sameFloat]
end Go.Fw
