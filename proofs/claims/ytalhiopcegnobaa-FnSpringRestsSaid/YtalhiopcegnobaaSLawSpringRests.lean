/- The law FnSpringRests answers true for all arguments. No condition. -/
import Derived.Test.YtalhiopcegnobaaSRest8
import Derived.Test.YtalhiopcegnobaaSSeat
import Derived.Test.YtalhiopcegnobaaRows
set_option linter.unusedVariables false
set_option linter.unusedSimpArgs false
namespace Go.Fw

end Go.Fw
namespace Go.Proofs.Ytalhiopcegnobaa
open Go.ChangeShapes Go.WideShapes Go.ChangeAt Go.RowKit Go.Fw Go.Fw.S

theorem fnSpringRests_own : ownKnob Try.prog.godebug = none := by kernel_rfl

set_option maxRecDepth 100000 in
theorem fnSpringRests_lifted (os : Os) (started : os.Started) (H : Type) (enc : TypeId × Value → H) :
    ReturnsInHanded {} Try.checked os 5 .any (Rows.fnSpringRestsSpec.pre6 enc Try.prog Try.f5 Rows.fnSpringRestsRow.domain false) (Rows.fnSpringRestsSpec.post enc Try.prog Try.f5 false true false false) := by
  refine returnsInHanded_of_change (C := Try.checked) fnSpringRests_own started (by kernel_rfl) Try.func5
    (ChangeSpec.witness6 (enc := enc) (C := Try.checked) false ⟨#[], #[.slice none 0 0, .slice none 0 0], []⟩ 8 (by kernel_rfl) (by kernel_rfl) (by kernel_rfl) (by kernel_rfl)) ?_
  intro W base args ds gs before hval hW _ _
  exact law_of (E := E_w_FnSpringRests) (L := lookL ll_w_FnSpringRests) (ps := [.ro false (.slice (.int .u8)), .ro false (.slice (.int .u8))]) ek_w_FnSpringRests Try.func5 (by kernel_rfl) lo_w_FnSpringRests rfl
    (fun ds hl => by
      match ds, hl with
      | [d1, d2], _ => rfl)
    (fun ⟨code, more, ⟨⟩⟩ hok => (ev_w_FnSpringRests code more).trans (v_FnSpringRests code more hok)) hval hW

theorem fnSpringRests_holds : Rows.FnSpringRestsSaid :=
  OpenClaim.holds_of_wide 5 Try.f5 rfl rfl rfl rfl rfl rfl rfl ⟨rfl, rfl, rfl, rfl, rfl⟩ rfl rfl rfl rfl rfl (by kernel_rfl) Try.func5 (by kernel_rfl)
    (of_decide_eq_true (by kernel_rfl)) (by unfold Func.isWrapper; first | (rw [if_pos (by decide +kernel)]; kernel_rfl) | (rw [if_neg (by decide +kernel)]; exact ⟨rfl, rfl⟩))
    (fun os started H enc _ => fnSpringRests_lifted os started H enc)

#print axioms fnSpringRests_holds
end Go.Proofs.Ytalhiopcegnobaa
