/- The reference's functions and the program's compute the same: steps of runs. No condition. -/
import Derived.Test.YtobcfldhacdpiaaGreatCEq3
import Derived.Test.YtobcfldhacdpiaaGreatZThy
set_option linter.unusedVariables false
set_option linter.unusedSimpArgs false
namespace Go.Fw

theorem timeOK_T {m : dMachine} (h : machOK m = true) {st : Nat} (hs : st < m.2.1.length) {t : Int} (ht : timeOK m st t = true) : 0 ≤ t ∧ t ≤ lenOf m st := by
  have h2 := lenOf_le h hs
  unfold timeOK at ht
  cases hl : (m.2.1.getD st zState).2.2.1 <;> rw [hl] at ht
  · rw [cond_f, l00In_T] at ht; omega
  · rw [cond_t, l00In_T] at ht; omega
/-! runs -/
structure RunT (m : dMachine) (r : dRun) : Prop where
  state : 0 ≤ r.1 ∧ r.1 < m.2.1.length
  time : timeOK m r.1.toNat r.2.1 = true
  rest : (r.2.2.1 = -1 ∧ r.2.2.2.1 = 0 ∧ r.2.2.2.2.1 = 0 ∧ r.2.2.2.2.2.1 = 0) ∨
    ((0 ≤ r.2.2.1 ∧ r.2.2.1 < m.2.1.length) ∧ timeOK m r.2.2.1.toNat r.2.2.2.1 = true ∧ (1 ≤ r.2.2.2.2.1 ∧ r.2.2.2.2.1 ≤ 100) ∧ 0 ≤ r.2.2.2.2.2.1 ∧ r.2.2.2.2.2.1 < r.2.2.2.2.1)
theorem RunT.t0 {m : dMachine} (h : machOK m = true) {r : dRun} (hr : RunT m r) : 0 ≤ r.2.1 ∧ r.2.1 ≤ 1000 := by
  have h1 := hr.state
  have h2 := timeOK_T h (st := r.1.toNat) (by omega) hr.time
  have h3 := lenOf_le h (j := r.1.toNat) (by omega)
  omega

end Go.Fw
