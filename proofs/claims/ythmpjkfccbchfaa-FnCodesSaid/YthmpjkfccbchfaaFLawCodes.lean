/- The law FnCodes answers true for all arguments. No condition. -/
import Derived.Test.YthmpjkfccbchfaaFEq10
import Derived.Test.YthmpjkfccbchfaaFSeat
import Derived.Test.YthmpjkfccbchfaaRows
set_option linter.unusedVariables false
set_option linter.unusedSimpArgs false
namespace Go.Fw

end Go.Fw
namespace Go.Proofs.Ythmpjkfccbchfaa
open Go.ChangeShapes Go.WideShapes Go.ChangeAt Go.RowKit Go.Fw Go.Fw.F

theorem fnCodes_own : ownKnob Try.prog.godebug = none := by kernel_rfl

set_option maxRecDepth 100000 in
theorem fnCodes_lifted (os : Os) (started : os.Started) (H : Type) (enc : TypeId × Value → H) :
    ReturnsInHanded {} Try.checked os 5 .any (Rows.fnCodesSpec.pre6 enc Try.prog Try.f5 Rows.fnCodesRow.domain false) (Rows.fnCodesSpec.post enc Try.prog Try.f5 false true false false) := by
  refine returnsInHanded_of_change (C := Try.checked) fnCodes_own started (by kernel_rfl) Try.func5
    (ChangeSpec.witness6 (enc := enc) (C := Try.checked) false ⟨#[], #[.slice none 0 0, .slice none 0 0], []⟩ 8 (by kernel_rfl) (by kernel_rfl) (by kernel_rfl) (by kernel_rfl)) ?_
  intro W base args ds gs before hval hW _ _
  exact law_of (E := E_w_FnCodes) (ps := [.ro false (.slice (.int .u8)), .ro false (.slice (.int .u8))]) ek_w_FnCodes Try.func5 (by kernel_rfl) (.none (by kernel_rfl)) rfl
    (fun ds hl => by
      match ds, hl with
      | [d1, d2], _ => rfl)
    (fun ⟨code, more, ⟨⟩⟩ hok => (ev_w_FnCodes code more).trans (v_FnCodes code more hok)) hval hW

theorem fnCodes_holds : Rows.FnCodesSaid :=
  OpenClaim.holds_of_wide 5 Try.f5 rfl rfl rfl rfl rfl rfl rfl ⟨rfl, rfl, rfl, rfl, rfl⟩ rfl rfl rfl rfl rfl (by kernel_rfl) Try.func5 (by kernel_rfl)
    (of_decide_eq_true (by kernel_rfl)) (by unfold Func.isWrapper; first | (rw [if_pos (by decide +kernel)]; kernel_rfl) | (rw [if_neg (by decide +kernel)]; exact ⟨rfl, rfl⟩))
    (fun os started H enc _ => fnCodes_lifted os started H enc)

#print axioms fnCodes_holds
end Go.Proofs.Ythmpjkfccbchfaa
