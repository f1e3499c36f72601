/- The law of springs: goals that are cut anywhere, a point as three springs, flushed numbers. No condition. -/
import Derived.Test.YtalhiopcegnobaaSDraw1
set_option linter.unusedVariables false
set_option linter.unusedSimpArgs false
namespace Go.Fw

theorem same_self (x : Nat) : same x x = true := same_iff.2 rfl
theorem c_same_self {x : Nat} (h : okF .f32 x) : g_i_SameNumber x x = some true := by rw [c_i_SameNumber h h, same_self]
theorem c_r8Same_self {l : List Nat} (h : ∀ x ∈ l, okF .f32 x) (hl : l.length < 4611686018427387904) : g_w_r8Same l l = some true := by
  unfold g_w_r8Same
  rw [ieq_self, bnot_t, cond_f]
  have := all_loop (step := L_w_r8Same_1) (fun i => ((l, (l, (false, ((i : Int), ())))), ())) (false, ((false, ()), ())) (true, ((false, ()), ())) (fun _ => true) l.length
    (fun j hj r => by
      simp only [L_w_r8Same_1]
      rw [ilt_nat hj, ix_nat hj, iadd_nat (by omega)]
      simp only [opt_bind_some, cond_t]
      rw [c_same_self (getD_ok h hj)]; rfl)
    (fun r => by simp only [L_w_r8Same_1, ilt_self, cond_f]) hl
  rw [show ((0 : Nat) : Int) = 0 from rfl] at this
  rw [this, allFrom_of (fun _ _ _ => rfl)]
  rfl

end Go.Fw
