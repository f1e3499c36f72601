/- The law FnTwoBones answers true for all arguments. No condition. -/
import Derived.Test.YthmpjkfccbchfaaFEq11
import Derived.Test.YthmpjkfccbchfaaFSeat
import Derived.Test.YthmpjkfccbchfaaRows
set_option linter.unusedVariables false
set_option linter.unusedSimpArgs false
namespace Go.Fw

end Go.Fw
namespace Go.Proofs.Ythmpjkfccbchfaa
open Go.ChangeShapes Go.WideShapes Go.ChangeAt Go.RowKit Go.Fw Go.Fw.F

theorem fnTwoBones_own : ownKnob Try.prog.godebug = none := by kernel_rfl

set_option maxRecDepth 100000 in
theorem fnTwoBones_lifted (os : Os) (started : os.Started) (H : Type) (enc : TypeId × Value → H) :
    ReturnsInHanded {} Try.checked os 11 .any (Rows.fnTwoBonesSpec.pre6 enc Try.prog Try.f11 Rows.fnTwoBonesRow.domain false) (Rows.fnTwoBonesSpec.post enc Try.prog Try.f11 false true false false) := by
  refine returnsInHanded_of_change (C := Try.checked) fnTwoBones_own started (by kernel_rfl) Try.func11
    (ChangeSpec.witness6 (enc := enc) (C := Try.checked) false ⟨#[], #[.slice none 0 0, .slice none 0 0], []⟩ 8 (by kernel_rfl) (by kernel_rfl) (by kernel_rfl) (by kernel_rfl)) ?_
  intro W base args ds gs before hval hW _ _
  exact law_of (E := E_w_FnTwoBones) (ps := [.ro false (.slice (.int .u8)), .ro false (.slice (.int .u8))]) ek_w_FnTwoBones Try.func11 (by kernel_rfl) (.none (by kernel_rfl)) rfl
    (fun ds hl => by
      match ds, hl with
      | [d1, d2], _ => rfl)
    (fun ⟨code, more, ⟨⟩⟩ hok => (ev_w_FnTwoBones code more).trans (v_FnTwoBones code more hok)) hval hW

theorem fnTwoBones_holds : Rows.FnTwoBonesSaid :=
  OpenClaim.holds_of_wide 11 Try.f11 rfl rfl rfl rfl rfl rfl rfl ⟨rfl, rfl, rfl, rfl, rfl⟩ rfl rfl rfl rfl rfl (by kernel_rfl) Try.func11 (by kernel_rfl)
    (of_decide_eq_true (by kernel_rfl)) (by unfold Func.isWrapper; first | (rw [if_pos (by decide +kernel)]; kernel_rfl) | (rw [if_neg (by decide +kernel)]; exact ⟨rfl, rfl⟩))
    (fun os started H enc _ => fnTwoBones_lifted os started H enc)

#print axioms fnTwoBones_holds
end Go.Proofs.Ythmpjkfccbchfaa
