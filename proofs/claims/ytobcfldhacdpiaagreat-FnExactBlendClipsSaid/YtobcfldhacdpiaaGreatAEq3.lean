/- The reference's functions and the program's compute the same (third part). No condition. -/
import Derived.Test.YtobcfldhacdpiaaGreatAEq2
set_option linter.unusedVariables false
set_option linter.unusedSimpArgs false
namespace Go.Fw

/-! ValidRecording -/
/-! ChangedNumbers -/
/-- The same number, bit for bit, all not-a-numbers being one. -/
def same (x y : Nat) : Bool := Nat.beq x y
theorem getD_ok {α : Type} {P : α → Prop} {l : List α} {z : α} {j : Nat} (h : ∀ x ∈ l, P x) (hj : j < l.length) : P (l.getD j z) := by
  rw [List.getD_eq_getElem?_getD, List.getElem?_eq_getElem hj]
  exact h _ (List.getElem_mem _)

/-! EdgesOf -/
end Go.Fw
