/- The law FnExactStepSwing answers true for all arguments. No condition. -/
import Derived.Test.YtalhiopcegnobaaSEq2
import Derived.Test.YtalhiopcegnobaaSSeat
import Derived.Test.YtalhiopcegnobaaRows
set_option linter.unusedVariables false
set_option linter.unusedSimpArgs false
namespace Go.Fw
theorem v_FnExactStepSwing (aS : dTurn) (hok : okPs [.ro true tTurn] (aS, ())) : g_w_FnExactStepSwing aS = some true := by
  unfold g_w_FnExactStepSwing
  obtain ⟨y, hs, hi, hq⟩ := e_StepSwing aS hok
  simp only [hs, hi, c_w_toSwing, c_w_eqSwing, opt_bind_some, cond_f, cond_t, bnot_t, ieq_self, beqB_self]
end Go.Fw
namespace Go.Proofs.Ytalhiopcegnobaa
open Go.ChangeShapes Go.WideShapes Go.ChangeAt Go.RowKit Go.Fw Go.Fw.S

theorem fnExactStepSwing_own : ownKnob Try.prog.godebug = none := by kernel_rfl

set_option maxRecDepth 100000 in
theorem fnExactStepSwing_lifted (os : Os) (started : os.Started) (H : Type) (enc : TypeId × Value → H) :
    ReturnsInHanded {} Try.checked os 11 .any (Rows.fnExactStepSwingSpec.pre6 enc Try.prog Try.f11 Rows.fnExactStepSwingRow.domain false) (Rows.fnExactStepSwingSpec.post enc Try.prog Try.f11 false true false false) := by
  refine returnsInHanded_of_change (C := Try.checked) fnExactStepSwing_own started (by kernel_rfl) Try.func11
    (ChangeSpec.witness6 (enc := enc) (C := Try.checked) false ⟨#[], #[.agg #[.float .f32 0, .float .f32 0, .float .f32 0, .float .f32 0]], []⟩ 8 (by kernel_rfl) (by kernel_rfl) (by kernel_rfl) (by kernel_rfl)) ?_
  intro W base args ds gs before hval hW _ _
  exact law_of (E := E_w_FnExactStepSwing) (ps := [.ro true tTurn]) ek_w_FnExactStepSwing Try.func11 (by kernel_rfl) (.none (by kernel_rfl)) rfl
    (fun ds hl => by
      match ds, hl with
      | [d1], _ => rfl)
    (fun ⟨aS, ⟨⟩⟩ hok => (ev_w_FnExactStepSwing aS).trans (v_FnExactStepSwing aS hok)) hval hW

theorem fnExactStepSwing_holds : Rows.FnExactStepSwingSaid :=
  OpenClaim.holds_of_wide 11 Try.f11 rfl rfl rfl rfl rfl rfl rfl ⟨rfl, rfl, rfl, rfl, rfl⟩ rfl rfl rfl rfl rfl (by kernel_rfl) Try.func11 (by kernel_rfl)
    (of_decide_eq_true (by kernel_rfl)) (by unfold Func.isWrapper; first | (rw [if_pos (by decide +kernel)]; kernel_rfl) | (rw [if_neg (by decide +kernel)]; exact ⟨rfl, rfl⟩))
    (fun os started H enc _ => fnExactStepSwing_lifted os started H enc)

#print axioms fnExactStepSwing_holds
end Go.Proofs.Ytalhiopcegnobaa
