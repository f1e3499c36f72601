/- The law FnExactRunSwing answers true for all arguments. No condition. -/
import Derived.Test.YtalhiopcegnobaaSEq2
import Derived.Test.YtalhiopcegnobaaSSeat
import Derived.Test.YtalhiopcegnobaaRows
set_option linter.unusedVariables false
set_option linter.unusedSimpArgs false
namespace Go.Fw
theorem v_FnExactRunSwing (aS : dTurn) (aSteps : Int) (hok : okPs [.ro true tTurn, .ro false (.int .i64)] (aS, aSteps, ())) : g_w_FnExactRunSwing aS aSteps = some true := by
  unfold g_w_FnExactRunSwing
  obtain ⟨y, hs, hi, hq⟩ := e_RunSwing aS aSteps hok
  have q0 : szL z_F32 y.1 ≤ 1048576 := hq
  have r0 := sumL_le b1_F32 y.1
  have e0 := c_w_eqFloat32S y.1 (by omega)
  have bm0 := c_w_markFloat32S y.1 (1) (by omega) (by omega) (by omega)
  have bh0 := c_w_heldFloat32S y.1 (1) (by omega) (by omega) (by omega)
  have bn0 : ilt (1 + (sumL c_F32 y.1 : Nat)) 0 = false := ilt_f (by omega)
  simp only [hs, hi, c_w_toSwing, c_w_eqSwing, e0, bm0, bh0, bn0, opt_bind_some, cond_f, cond_t, bnot_t, ieq_self, beqB_self]
end Go.Fw
namespace Go.Proofs.Ytalhiopcegnobaa
open Go.ChangeShapes Go.WideShapes Go.ChangeAt Go.RowKit Go.Fw Go.Fw.S

theorem fnExactRunSwing_own : ownKnob Try.prog.godebug = none := by kernel_rfl

set_option maxRecDepth 100000 in
theorem fnExactRunSwing_lifted (os : Os) (started : os.Started) (H : Type) (enc : TypeId × Value → H) :
    ReturnsInHanded {} Try.checked os 12 .any (Rows.fnExactRunSwingSpec.pre6 enc Try.prog Try.f12 Rows.fnExactRunSwingRow.domain false) (Rows.fnExactRunSwingSpec.post enc Try.prog Try.f12 false true false false) := by
  refine returnsInHanded_of_change (C := Try.checked) fnExactRunSwing_own started (by kernel_rfl) Try.func12
    (ChangeSpec.witness6 (enc := enc) (C := Try.checked) false ⟨#[], #[.agg #[.float .f32 0, .float .f32 0, .float .f32 0, .float .f32 0], .int .i64 0], []⟩ 8 (by kernel_rfl) (by kernel_rfl) (by kernel_rfl) (by kernel_rfl)) ?_
  intro W base args ds gs before hval hW _ _
  exact law_of (E := E_w_FnExactRunSwing) (ps := [.ro true tTurn, .ro false (.int .i64)]) ek_w_FnExactRunSwing Try.func12 (by kernel_rfl) (.none (by kernel_rfl)) rfl
    (fun ds hl => by
      match ds, hl with
      | [d1, d2], _ => rfl)
    (fun ⟨aS, aSteps, ⟨⟩⟩ hok => (ev_w_FnExactRunSwing aS aSteps).trans (v_FnExactRunSwing aS aSteps hok)) hval hW

theorem fnExactRunSwing_holds : Rows.FnExactRunSwingSaid :=
  OpenClaim.holds_of_wide 12 Try.f12 rfl rfl rfl rfl rfl rfl rfl ⟨rfl, rfl, rfl, rfl, rfl⟩ rfl rfl rfl rfl rfl (by kernel_rfl) Try.func12 (by kernel_rfl)
    (of_decide_eq_true (by kernel_rfl)) (by unfold Func.isWrapper; first | (rw [if_pos (by decide +kernel)]; kernel_rfl) | (rw [if_neg (by decide +kernel)]; exact ⟨rfl, rfl⟩))
    (fun os started H enc _ => fnExactRunSwing_lifted os started H enc)

#print axioms fnExactRunSwing_holds
end Go.Proofs.Ytalhiopcegnobaa
