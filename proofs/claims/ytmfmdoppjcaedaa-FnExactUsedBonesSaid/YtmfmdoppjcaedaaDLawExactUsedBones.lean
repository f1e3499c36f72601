/- The law FnExactUsedBones answers true for all arguments. No condition. -/
import Derived.Test.YtmfmdoppjcaedaaDEq1
import Derived.Test.YtmfmdoppjcaedaaDSeat
import Derived.Test.YtmfmdoppjcaedaaRows
set_option linter.unusedVariables false
set_option linter.unusedSimpArgs false
namespace Go.Fw
theorem v_FnExactUsedBones (aK : dSkel) (aPoints : (List dSkinPoint)) (hok : okPs [.ro true tSkel, .ro false (.slice tSkinPoint)] (aK, aPoints, ())) : g_w_FnExactUsedBones aK aPoints = some true := by
  unfold g_w_FnExactUsedBones
  have z0 := c_w_szSkeleton aK (1048576) hok.1 (by omega) (by omega)
  by_cases c0 : ((z_Skel aK : Nat) : Int) ≤ 1048576
  case neg => rw [if_neg c0] at z0; simp only [z0, opt_bind_some, show ilt (-1) 0 = true from rfl, cond_t]
  rw [if_pos c0] at z0
  rw [z0]
  simp (disch := omega) only [opt_bind_some, ilt_f, cond_f]
  have d0 : ((z_Skel aK : Nat) : Int) ≤ 1048576 := by omega
  have z1 := c_w_szSkinPointS aPoints (1048576 - (z_Skel aK : Nat)) hok.2.1 (by omega) (by omega)
  by_cases c1 : ((szL z_SkinPoint aPoints : Nat) : Int) ≤ 1048576 - (z_Skel aK : Nat)
  case neg => rw [if_neg c1] at z1; simp only [z1, opt_bind_some, show ilt (-1) 0 = true from rfl, cond_t]
  rw [if_pos c1] at z1
  rw [z1]
  simp (disch := omega) only [opt_bind_some, ilt_f, cond_f]
  have d1 : ((szL z_SkinPoint aPoints : Nat) : Int) ≤ 1048576 := by omega
  obtain ⟨y, hs, hi, hq⟩ := e_UsedBones aK aPoints d0 d1 hok
  have q0 : szL z_I64 y.1 ≤ 1048576 := hq
  have r0 := sumL_le b1_I64 y.1
  have s0 := bv_Skel aK
  have s1 := sumL_le b1_SkinPoint aPoints
  have t0 := c_w_toSkeleton aK (by omega)
  have t1 := c_w_toSkinPointS aPoints (by omega)
  have e0 := c_w_eqSkeleton aK (by omega)
  have e1 := c_w_eqSkinPointS aPoints (by omega)
  have e2 := c_w_eqInt64S y.1 (by omega)
  have am0 := c_w_markSkeleton aK (1) (by omega) (by omega) (by omega)
  have an0 : ilt (1 + (cv_Skel aK : Nat)) 0 = false := ilt_f (by omega)
  have am1 := c_w_markSkinPointS aPoints (1 + (cv_Skel aK : Nat)) (by omega) (by omega) (by omega)
  have an1 : ilt (1 + (cv_Skel aK : Nat) + (sumL c_SkinPoint aPoints : Nat)) 0 = false := ilt_f (by omega)
  have bm0 := c_w_markInt64S y.1 (1) (by omega) (by omega) (by omega)
  have bh0 := c_w_heldInt64S y.1 (1) (by omega) (by omega) (by omega)
  have bn0 : ilt (1 + (sumL c_I64 y.1 : Nat)) 0 = false := ilt_f (by omega)
  simp only [hs, hi, t0, t1, e0, e1, e2, am0, an0, am1, an1, bm0, bh0, bn0, opt_bind_some, cond_f, cond_t, bnot_t, ieq_self, beqB_self]
end Go.Fw
namespace Go.Proofs.Ytmfmdoppjcaedaa
open Go.ChangeShapes Go.WideShapes Go.ChangeAt Go.RowKit Go.Fw Go.Fw.D

theorem fnExactUsedBones_own : ownKnob Try.prog.godebug = none := by kernel_rfl

set_option maxRecDepth 100000 in
theorem fnExactUsedBones_lifted (os : Os) (started : os.Started) (H : Type) (enc : TypeId × Value → H) :
    ReturnsInHanded {} Try.checked os 4 .any (Rows.fnExactUsedBonesSpec.pre6 enc Try.prog Try.f4 Rows.fnExactUsedBonesRow.domain false) (Rows.fnExactUsedBonesSpec.post enc Try.prog Try.f4 false true false false) := by
  refine returnsInHanded_of_change (C := Try.checked) fnExactUsedBones_own started (by kernel_rfl) Try.func4
    (ChangeSpec.witness6 (enc := enc) (C := Try.checked) false ⟨#[], #[.agg #[.slice none 0 0], .slice none 0 0], []⟩ 8 (by kernel_rfl) (by kernel_rfl) (by kernel_rfl) (by kernel_rfl)) ?_
  intro W base args ds gs before hval hW _ _
  exact law_of (E := E_w_FnExactUsedBones) (ps := [.ro true tSkel, .ro false (.slice tSkinPoint)]) ek_w_FnExactUsedBones Try.func4 (by kernel_rfl) (.none (by kernel_rfl)) rfl
    (fun ds hl => by
      match ds, hl with
      | [d1, d2], _ => rfl)
    (fun ⟨aK, aPoints, ⟨⟩⟩ hok => (ev_w_FnExactUsedBones aK aPoints).trans (v_FnExactUsedBones aK aPoints hok)) hval hW

theorem fnExactUsedBones_holds : Rows.FnExactUsedBonesSaid :=
  OpenClaim.holds_of_wide 4 Try.f4 rfl rfl rfl rfl rfl rfl rfl ⟨rfl, rfl, rfl, rfl, rfl⟩ rfl rfl rfl rfl rfl (by kernel_rfl) Try.func4 (by kernel_rfl)
    (of_decide_eq_true (by kernel_rfl)) (by unfold Func.isWrapper; first | (rw [if_pos (by decide +kernel)]; kernel_rfl) | (rw [if_neg (by decide +kernel)]; exact ⟨rfl, rfl⟩))
    (fun os started H enc _ => fnExactUsedBones_lifted os started H enc)

#print axioms fnExactUsedBones_holds
end Go.Proofs.Ytmfmdoppjcaedaa
