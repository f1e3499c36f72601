/- The law FnExactSkinMixed answers true for all arguments. No condition. -/
import Derived.Test.YtijmellgdjcofaaBEq7
import Derived.Test.YtijmellgdjcofaaBSeat
import Derived.Test.YtijmellgdjcofaaRows
set_option linter.unusedVariables false
set_option linter.unusedSimpArgs false
namespace Go.Fw
theorem v_FnExactSkinMixed (aK : dSkel) (aRest : dPose) (aP : dPose) (aPoints : (List dSkinPoint)) (hok : okPs [.ro true tSkel, .ro true tPose, .ro true tPose, .ro false (.slice tSkinPoint)] (aK, aRest, aP, aPoints, ())) : g_w_FnExactSkinMixed aK aRest aP aPoints = some true := by
  unfold g_w_FnExactSkinMixed
  have z0 := c_w_szSkeleton aK (1048576) hok.1 (by omega) (by omega)
  by_cases c0 : ((z_Skel aK : Nat) : Int) ≤ 1048576
  case neg => rw [if_neg c0] at z0; simp only [z0, opt_bind_some, show ilt (-1) 0 = true from rfl, cond_t]
  rw [if_pos c0] at z0
  rw [z0]
  simp (disch := omega) only [opt_bind_some, ilt_f, cond_f]
  have d0 : ((z_Skel aK : Nat) : Int) ≤ 1048576 := by omega
  have z1 := c_w_szPose aRest (1048576 - (z_Skel aK : Nat)) hok.2.1 (by omega) (by omega)
  by_cases c1 : ((z_Pose aRest : Nat) : Int) ≤ 1048576 - (z_Skel aK : Nat)
  case neg => rw [if_neg c1] at z1; simp only [z1, opt_bind_some, show ilt (-1) 0 = true from rfl, cond_t]
  rw [if_pos c1] at z1
  rw [z1]
  simp (disch := omega) only [opt_bind_some, ilt_f, cond_f]
  have d1 : ((z_Pose aRest : Nat) : Int) ≤ 1048576 := by omega
  have z2 := c_w_szPose aP (1048576 - (z_Skel aK : Nat) - (z_Pose aRest : Nat)) hok.2.2.1 (by omega) (by omega)
  by_cases c2 : ((z_Pose aP : Nat) : Int) ≤ 1048576 - (z_Skel aK : Nat) - (z_Pose aRest : Nat)
  case neg => rw [if_neg c2] at z2; simp only [z2, opt_bind_some, show ilt (-1) 0 = true from rfl, cond_t]
  rw [if_pos c2] at z2
  rw [z2]
  simp (disch := omega) only [opt_bind_some, ilt_f, cond_f]
  have d2 : ((z_Pose aP : Nat) : Int) ≤ 1048576 := by omega
  have z3 := c_w_szSkinPointS aPoints (1048576 - (z_Skel aK : Nat) - (z_Pose aRest : Nat) - (z_Pose aP : Nat)) hok.2.2.2.1 (by omega) (by omega)
  by_cases c3 : ((szL z_SkinPoint aPoints : Nat) : Int) ≤ 1048576 - (z_Skel aK : Nat) - (z_Pose aRest : Nat) - (z_Pose aP : Nat)
  case neg => rw [if_neg c3] at z3; simp only [z3, opt_bind_some, show ilt (-1) 0 = true from rfl, cond_t]
  rw [if_pos c3] at z3
  rw [z3]
  simp (disch := omega) only [opt_bind_some, ilt_f, cond_f]
  have d3 : ((szL z_SkinPoint aPoints : Nat) : Int) ≤ 1048576 := by omega
  obtain ⟨y, hs, hi, hq⟩ := e_SkinMixed aK aRest aP aPoints d0 d1 d2 d3 hok
  have q0 : szL z_Vec y.1 ≤ 1048576 := hq
  have r0 := sumL_le b1_Vec y.1
  have s0 := bv_Skel aK
  have s1 := bv_Pose aRest
  have s2 := bv_Pose aP
  have s3 := sumL_le b1_SkinPoint aPoints
  have t0 := c_w_toSkeleton aK (by omega)
  have t1 := c_w_toPose aRest (by omega)
  have t2 := c_w_toPose aP (by omega)
  have t3 := c_w_toSkinPointS aPoints (by omega)
  have e0 := c_w_eqSkeleton aK (by omega)
  have e1 := c_w_eqPose aRest (by omega)
  have e2 := c_w_eqPose aP (by omega)
  have e3 := c_w_eqSkinPointS aPoints (by omega)
  have e4 := c_w_eqVectorS y.1 (by omega)
  have am0 := c_w_markSkeleton aK (1) (by omega) (by omega) (by omega)
  have an0 : ilt (1 + (cv_Skel aK : Nat)) 0 = false := ilt_f (by omega)
  have am1 := c_w_markPose aRest (1 + (cv_Skel aK : Nat)) (by omega) (by omega) (by omega)
  have ap1 : (aRest.1, (mv_Pose aRest (1 + (cv_Skel aK : Nat))).2) = mv_Pose aRest (1 + (cv_Skel aK : Nat)) := rfl
  have an1 : ilt (1 + (cv_Skel aK : Nat) + (cv_Pose aRest : Nat)) 0 = false := ilt_f (by omega)
  have am2 := c_w_markPose aP (1 + (cv_Skel aK : Nat) + (cv_Pose aRest : Nat)) (by omega) (by omega) (by omega)
  have ap2 : (aP.1, (mv_Pose aP (1 + (cv_Skel aK : Nat) + (cv_Pose aRest : Nat))).2) = mv_Pose aP (1 + (cv_Skel aK : Nat) + (cv_Pose aRest : Nat)) := rfl
  have an2 : ilt (1 + (cv_Skel aK : Nat) + (cv_Pose aRest : Nat) + (cv_Pose aP : Nat)) 0 = false := ilt_f (by omega)
  have am3 := c_w_markSkinPointS aPoints (1 + (cv_Skel aK : Nat) + (cv_Pose aRest : Nat) + (cv_Pose aP : Nat)) (by omega) (by omega) (by omega)
  have an3 : ilt (1 + (cv_Skel aK : Nat) + (cv_Pose aRest : Nat) + (cv_Pose aP : Nat) + (sumL c_SkinPoint aPoints : Nat)) 0 = false := ilt_f (by omega)
  have bm0 := c_w_markVectorS y.1 (1) (by omega) (by omega) (by omega)
  have bh0 := c_w_heldVectorS y.1 (1) (by omega) (by omega) (by omega)
  have bn0 : ilt (1 + (sumL c_Vec y.1 : Nat)) 0 = false := ilt_f (by omega)
  simp only [hs, hi, t0, t1, t2, t3, e0, e1, e2, e3, e4, am0, an0, am1, ap1, an1, am2, ap2, an2, am3, an3, bm0, bh0, bn0, opt_bind_some, cond_f, cond_t, bnot_t, ieq_self, beqB_self]
end Go.Fw
namespace Go.Proofs.Ytijmellgdjcofaa
open Go.ChangeShapes Go.WideShapes Go.ChangeAt Go.RowKit Go.Fw Go.Fw.B

theorem fnExactSkinMixed_own : ownKnob Try.prog.godebug = none := by kernel_rfl

set_option maxRecDepth 100000 in
theorem fnExactSkinMixed_lifted (os : Os) (started : os.Started) (H : Type) (enc : TypeId × Value → H) :
    ReturnsInHanded {} Try.checked os 11 .any (Rows.fnExactSkinMixedSpec.pre6 enc Try.prog Try.f11 Rows.fnExactSkinMixedRow.domain false) (Rows.fnExactSkinMixedSpec.post enc Try.prog Try.f11 false true false false) := by
  refine returnsInHanded_of_change (C := Try.checked) fnExactSkinMixed_own started (by kernel_rfl) Try.func11
    (ChangeSpec.witness6 (enc := enc) (C := Try.checked) false ⟨#[], #[.agg #[.slice none 0 0], .agg #[.float .f32 0, .float .f32 0, .float .f32 0, .slice none 0 0], .agg #[.float .f32 0, .float .f32 0, .float .f32 0, .slice none 0 0], .slice none 0 0], []⟩ 8 (by kernel_rfl) (by kernel_rfl) (by kernel_rfl) (by kernel_rfl)) ?_
  intro W base args ds gs before hval hW _ _
  exact law_of (E := E_w_FnExactSkinMixed) (ps := [.ro true tSkel, .ro true tPose, .ro true tPose, .ro false (.slice tSkinPoint)]) ek_w_FnExactSkinMixed Try.func11 (by kernel_rfl) (.none (by kernel_rfl)) rfl
    (fun ds hl => by
      match ds, hl with
      | [d1, d2, d3, d4], _ => rfl)
    (fun ⟨aK, aRest, aP, aPoints, ⟨⟩⟩ hok => (ev_w_FnExactSkinMixed aK aRest aP aPoints).trans (v_FnExactSkinMixed aK aRest aP aPoints hok)) hval hW

theorem fnExactSkinMixed_holds : Rows.FnExactSkinMixedSaid :=
  OpenClaim.holds_of_wide 11 Try.f11 rfl rfl rfl rfl rfl rfl rfl ⟨rfl, rfl, rfl, rfl, rfl⟩ rfl rfl rfl rfl rfl (by kernel_rfl) Try.func11 (by kernel_rfl)
    (of_decide_eq_true (by kernel_rfl)) (by unfold Func.isWrapper; first | (rw [if_pos (by decide +kernel)]; kernel_rfl) | (rw [if_neg (by decide +kernel)]; exact ⟨rfl, rfl⟩))
    (fun os started H enc _ => fnExactSkinMixed_lifted os started H enc)

#print axioms fnExactSkinMixed_holds
end Go.Proofs.Ytijmellgdjcofaa
