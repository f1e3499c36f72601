/- The law FnSums answers true for all arguments. No condition. -/
import Derived.Test.YthmpjkfccbchfaaFEq12
import Derived.Test.YthmpjkfccbchfaaFSeat
import Derived.Test.YthmpjkfccbchfaaRows
set_option linter.unusedVariables false
set_option linter.unusedSimpArgs false
namespace Go.Fw

end Go.Fw
namespace Go.Proofs.Ythmpjkfccbchfaa
open Go.ChangeShapes Go.WideShapes Go.ChangeAt Go.RowKit Go.Fw Go.Fw.F

theorem fnSums_own : ownKnob Try.prog.godebug = none := by kernel_rfl

set_option maxRecDepth 100000 in
theorem fnSums_lifted (os : Os) (started : os.Started) (H : Type) (enc : TypeId × Value → H) :
    ReturnsInHanded {} Try.checked os 6 .any (Rows.fnSumsSpec.pre6 enc Try.prog Try.f6 Rows.fnSumsRow.domain false) (Rows.fnSumsSpec.post enc Try.prog Try.f6 false true false false) := by
  refine returnsInHanded_of_change (C := Try.checked) fnSums_own started (by kernel_rfl) Try.func6
    (ChangeSpec.witness6 (enc := enc) (C := Try.checked) false ⟨#[], #[.slice none 0 0, .slice none 0 0], []⟩ 8 (by kernel_rfl) (by kernel_rfl) (by kernel_rfl) (by kernel_rfl)) ?_
  intro W base args ds gs before hval hW _ _
  exact law_of (E := E_w_FnSums) (L := lookL ll_w_FnSums) (ps := [.ro false (.slice (.int .u8)), .ro false (.slice (.int .u8))]) ek_w_FnSums Try.func6 (by kernel_rfl) lo_w_FnSums rfl
    (fun ds hl => by
      match ds, hl with
      | [d1, d2], _ => rfl)
    (fun ⟨code, more, ⟨⟩⟩ hok => (ev_w_FnSums code more).trans (v_FnSums code more hok)) hval hW

theorem fnSums_holds : Rows.FnSumsSaid :=
  OpenClaim.holds_of_wide 6 Try.f6 rfl rfl rfl rfl rfl rfl rfl ⟨rfl, rfl, rfl, rfl, rfl⟩ rfl rfl rfl rfl rfl (by kernel_rfl) Try.func6 (by kernel_rfl)
    (of_decide_eq_true (by kernel_rfl)) (by unfold Func.isWrapper; first | (rw [if_pos (by decide +kernel)]; kernel_rfl) | (rw [if_neg (by decide +kernel)]; exact ⟨rfl, rfl⟩))
    (fun os started H enc _ => fnSums_lifted os started H enc)

#print axioms fnSums_holds
end Go.Proofs.Ythmpjkfccbchfaa
