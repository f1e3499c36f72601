/- The law FnExactPoseOfNumbers answers true for all arguments. No condition. -/
import Derived.Test.YtcbpdhhipkdofaaAEq2
import Derived.Test.YtcbpdhhipkdofaaASeat
import Derived.Test.YtcbpdhhipkdofaaRows
set_option linter.unusedVariables false
set_option linter.unusedSimpArgs false
namespace Go.Fw
theorem v_FnExactPoseOfNumbers (aList : (List Nat)) (hok : okPs [.ro false (.slice (.flt .f32))] (aList, ())) : g_w_FnExactPoseOfNumbers aList = some true := by
  unfold g_w_FnExactPoseOfNumbers
  have hz : szL z_F32 aList = aList.length := szL_zero aList
  by_cases c0 : (1048576 : Int) < aList.length
  · rw [ilt_t c0]; rfl
  have d0 : (szL z_F32 aList : Int) ≤ 1048576 := by omega
  rw [ilt_f (by omega), cond_f]
  obtain ⟨y, hs, hi, hq⟩ := e_PoseOfNumbers aList d0 hok
  have q0 : z_Pose y.1 ≤ 1048576 := hq
  have r0 := bv_Pose y.1
  have s0 := sumL_le b1_F32 aList
  have t0 := c_w_toFloat32S aList (by omega)
  have e0 := c_w_eqFloat32S aList (by omega)
  have e1 := c_w_eqPose y.1 (by omega)
  have am0 := c_w_markFloat32S aList (1) (by omega) (by omega) (by omega)
  have an0 : ilt (1 + (sumL c_F32 aList : Nat)) 0 = false := ilt_f (by omega)
  have bm0 := c_w_markPose y.1 (1) (by omega) (by omega) (by omega)
  have bh0 := c_w_heldPose y.1 (1) (by omega) (by omega) (by omega)
  have bp0 : (y.1.1, (mv_Pose y.1 (1)).2) = mv_Pose y.1 (1) := rfl
  have bn0 : ilt (1 + (cv_Pose y.1 : Nat)) 0 = false := ilt_f (by omega)
  simp only [hs, hi, t0, e0, e1, am0, an0, bm0, bh0, bp0, bn0, opt_bind_some, cond_f, cond_t, bnot_t, ieq_self, beqB_self]
end Go.Fw
namespace Go.Proofs.Ytcbpdhhipkdofaa
open Go.ChangeShapes Go.WideShapes Go.ChangeAt Go.RowKit Go.Fw Go.Fw.A

theorem fnExactPoseOfNumbers_own : ownKnob Try.prog.godebug = none := by kernel_rfl

set_option maxRecDepth 100000 in
theorem fnExactPoseOfNumbers_lifted (os : Os) (started : os.Started) (H : Type) (enc : TypeId × Value → H) :
    ReturnsInHanded {} Try.checked os 7 .any (Rows.fnExactPoseOfNumbersSpec.pre6 enc Try.prog Try.f7 Rows.fnExactPoseOfNumbersRow.domain false) (Rows.fnExactPoseOfNumbersSpec.post enc Try.prog Try.f7 false true false false) := by
  refine returnsInHanded_of_change (C := Try.checked) fnExactPoseOfNumbers_own started (by kernel_rfl) Try.func7
    (ChangeSpec.witness6 (enc := enc) (C := Try.checked) false ⟨#[], #[.slice none 0 0], []⟩ 8 (by kernel_rfl) (by kernel_rfl) (by kernel_rfl) (by kernel_rfl)) ?_
  intro W base args ds gs before hval hW _ _
  exact law_of (E := E_w_FnExactPoseOfNumbers) (ps := [.ro false (.slice (.flt .f32))]) ek_w_FnExactPoseOfNumbers Try.func7 (by kernel_rfl) (.none (by kernel_rfl)) rfl
    (fun ds hl => by
      match ds, hl with
      | [d1], _ => rfl)
    (fun ⟨aList, ⟨⟩⟩ hok => (ev_w_FnExactPoseOfNumbers aList).trans (v_FnExactPoseOfNumbers aList hok)) hval hW

theorem fnExactPoseOfNumbers_holds : Rows.FnExactPoseOfNumbersSaid :=
  OpenClaim.holds_of_wide 7 Try.f7 rfl rfl rfl rfl rfl rfl rfl ⟨rfl, rfl, rfl, rfl, rfl⟩ rfl rfl rfl rfl rfl (by kernel_rfl) Try.func7 (by kernel_rfl)
    (of_decide_eq_true (by kernel_rfl)) (by unfold Func.isWrapper; first | (rw [if_pos (by decide +kernel)]; kernel_rfl) | (rw [if_neg (by decide +kernel)]; exact ⟨rfl, rfl⟩))
    (fun os started H enc _ => fnExactPoseOfNumbers_lifted os started H enc)

#print axioms fnExactPoseOfNumbers_holds
end Go.Proofs.Ytcbpdhhipkdofaa
