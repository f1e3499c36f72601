/- The law FnExactNumbersOfPose answers true for all arguments. No condition. -/
import Derived.Test.YtcbpdhhipkdofaaAEq2
import Derived.Test.YtcbpdhhipkdofaaASeat
import Derived.Test.YtcbpdhhipkdofaaRows
set_option linter.unusedVariables false
set_option linter.unusedSimpArgs false
namespace Go.Fw
theorem v_FnExactNumbersOfPose (aP : dPose) (hok : okPs [.ro true tPose] (aP, ())) : g_w_FnExactNumbersOfPose aP = some true := by
  unfold g_w_FnExactNumbersOfPose
  have z0 := c_w_szPose aP (1048576) hok.1 (by omega) (by omega)
  by_cases c0 : ((z_Pose aP : Nat) : Int) ≤ 1048576
  case neg => rw [if_neg c0] at z0; simp only [z0, opt_bind_some, show ilt (-1) 0 = true from rfl, cond_t]
  rw [if_pos c0] at z0
  rw [z0]
  simp (disch := omega) only [opt_bind_some, ilt_f, cond_f]
  have d0 : ((z_Pose aP : Nat) : Int) ≤ 1048576 := by omega
  obtain ⟨y, hs, hi, hq⟩ := e_NumbersOfPose aP d0 hok
  have q0 : szL z_F32 y.1 ≤ 1048576 := hq
  have r0 := sumL_le b1_F32 y.1
  have s0 := bv_Pose aP
  have t0 := c_w_toPose aP (by omega)
  have e0 := c_w_eqPose aP (by omega)
  have e1 := c_w_eqFloat32S y.1 (by omega)
  have am0 := c_w_markPose aP (1) (by omega) (by omega) (by omega)
  have ap0 : (aP.1, (mv_Pose aP (1)).2) = mv_Pose aP (1) := rfl
  have an0 : ilt (1 + (cv_Pose aP : Nat)) 0 = false := ilt_f (by omega)
  have bm0 := c_w_markFloat32S y.1 (1) (by omega) (by omega) (by omega)
  have bh0 := c_w_heldFloat32S y.1 (1) (by omega) (by omega) (by omega)
  have bn0 : ilt (1 + (sumL c_F32 y.1 : Nat)) 0 = false := ilt_f (by omega)
  simp only [hs, hi, t0, e0, e1, am0, ap0, an0, bm0, bh0, bn0, opt_bind_some, cond_f, cond_t, bnot_t, ieq_self, beqB_self]
end Go.Fw
namespace Go.Proofs.Ytcbpdhhipkdofaa
open Go.ChangeShapes Go.WideShapes Go.ChangeAt Go.RowKit Go.Fw Go.Fw.A

theorem fnExactNumbersOfPose_own : ownKnob Try.prog.godebug = none := by kernel_rfl

set_option maxRecDepth 100000 in
theorem fnExactNumbersOfPose_lifted (os : Os) (started : os.Started) (H : Type) (enc : TypeId × Value → H) :
    ReturnsInHanded {} Try.checked os 10 .any (Rows.fnExactNumbersOfPoseSpec.pre6 enc Try.prog Try.f10 Rows.fnExactNumbersOfPoseRow.domain false) (Rows.fnExactNumbersOfPoseSpec.post enc Try.prog Try.f10 false true false false) := by
  refine returnsInHanded_of_change (C := Try.checked) fnExactNumbersOfPose_own started (by kernel_rfl) Try.func10
    (ChangeSpec.witness6 (enc := enc) (C := Try.checked) false ⟨#[], #[.agg #[.float .f32 0, .float .f32 0, .float .f32 0, .slice none 0 0]], []⟩ 8 (by kernel_rfl) (by kernel_rfl) (by kernel_rfl) (by kernel_rfl)) ?_
  intro W base args ds gs before hval hW _ _
  exact law_of (E := E_w_FnExactNumbersOfPose) (ps := [.ro true tPose]) ek_w_FnExactNumbersOfPose Try.func10 (by kernel_rfl) (.none (by kernel_rfl)) rfl
    (fun ds hl => by
      match ds, hl with
      | [d1], _ => rfl)
    (fun ⟨aP, ⟨⟩⟩ hok => (ev_w_FnExactNumbersOfPose aP).trans (v_FnExactNumbersOfPose aP hok)) hval hW

theorem fnExactNumbersOfPose_holds : Rows.FnExactNumbersOfPoseSaid :=
  OpenClaim.holds_of_wide 10 Try.f10 rfl rfl rfl rfl rfl rfl rfl ⟨rfl, rfl, rfl, rfl, rfl⟩ rfl rfl rfl rfl rfl (by kernel_rfl) Try.func10 (by kernel_rfl)
    (of_decide_eq_true (by kernel_rfl)) (by unfold Func.isWrapper; first | (rw [if_pos (by decide +kernel)]; kernel_rfl) | (rw [if_neg (by decide +kernel)]; exact ⟨rfl, rfl⟩))
    (fun os started H enc _ => fnExactNumbersOfPose_lifted os started H enc)

#print axioms fnExactNumbersOfPose_holds
end Go.Proofs.Ytcbpdhhipkdofaa
