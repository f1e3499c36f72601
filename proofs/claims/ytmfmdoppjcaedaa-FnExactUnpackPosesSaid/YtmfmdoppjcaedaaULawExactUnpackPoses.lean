/- The law FnExactUnpackPoses answers true for all arguments. No condition. -/
import Derived.Test.YtmfmdoppjcaedaaUEq3
import Derived.Test.YtmfmdoppjcaedaaUSeat
import Derived.Test.YtmfmdoppjcaedaaRows
set_option linter.unusedVariables false
set_option linter.unusedSimpArgs false
namespace Go.Fw
theorem v_FnExactUnpackPoses (aP : dPacking) (aCount : Int) (aS : ByteArray) (hok : okPs [.ro true tPacking, .ro false (.int .i64), .ro false .str] (aP, aCount, aS, ())) : g_w_FnExactUnpackPoses aP aCount aS = some true := by
  unfold g_w_FnExactUnpackPoses
  by_cases c2 : (1048576 : Int) < (aS.size : Nat)
  · rw [ilt_t c2]; rfl
  have d2 : ((aS.size : Nat) : Int) ≤ 1048576 := by omega
  rw [ilt_f (by omega), cond_f]
  obtain ⟨y, hs, hi, hq⟩ := e_UnpackPoses aP aCount aS d2 hok
  have q0 : szL z_Pose y.1 ≤ 1048576 := hq
  have r0 := sumL_le b1_Pose y.1
  have e0 := c_w_eqPoseS y.1 (by omega)
  have bm0 := c_w_markPoseS y.1 (1) (by omega) (by omega) (by omega)
  have bh0 := c_w_heldPoseS y.1 (1) (by omega) (by omega) (by omega)
  have bn0 : ilt (1 + (sumL c_Pose y.1 : Nat)) 0 = false := ilt_f (by omega)
  simp only [hs, hi, c_w_toPacking, e0, bm0, bh0, bn0, opt_bind_some, cond_f, cond_t, bnot_t, ieq_self, beqB_self]
end Go.Fw
namespace Go.Proofs.Ytmfmdoppjcaedaa
open Go.ChangeShapes Go.WideShapes Go.ChangeAt Go.RowKit Go.Fw Go.Fw.U

theorem fnExactUnpackPoses_own : ownKnob Try.prog.godebug = none := by kernel_rfl

set_option maxRecDepth 100000 in
theorem fnExactUnpackPoses_lifted (os : Os) (started : os.Started) (H : Type) (enc : TypeId × Value → H) :
    ReturnsInHanded {} Try.checked os 3 .any (Rows.fnExactUnpackPosesSpec.pre6 enc Try.prog Try.f3 Rows.fnExactUnpackPosesRow.domain false) (Rows.fnExactUnpackPosesSpec.post enc Try.prog Try.f3 false true false false) := by
  refine returnsInHanded_of_change (C := Try.checked) fnExactUnpackPoses_own started (by kernel_rfl) Try.func3
    (ChangeSpec.witness6 (enc := enc) (C := Try.checked) false ⟨#[], #[.agg #[.int .i64 0, .int .i64 0, .float .f32 0], .int .i64 0, .string .empty], []⟩ 8 (by kernel_rfl) (by kernel_rfl) (by kernel_rfl) (by kernel_rfl)) ?_
  intro W base args ds gs before hval hW _ _
  exact law_of (E := E_w_FnExactUnpackPoses) (ps := [.ro true tPacking, .ro false (.int .i64), .ro false .str]) ek_w_FnExactUnpackPoses Try.func3 (by kernel_rfl) (.none (by kernel_rfl)) rfl
    (fun ds hl => by
      match ds, hl with
      | [d1, d2, d3], _ => rfl)
    (fun ⟨aP, aCount, aS, ⟨⟩⟩ hok => (ev_w_FnExactUnpackPoses aP aCount aS).trans (v_FnExactUnpackPoses aP aCount aS hok)) hval hW

theorem fnExactUnpackPoses_holds : Rows.FnExactUnpackPosesSaid :=
  OpenClaim.holds_of_wide 3 Try.f3 rfl rfl rfl rfl rfl rfl rfl ⟨rfl, rfl, rfl, rfl, rfl⟩ rfl rfl rfl rfl rfl (by kernel_rfl) Try.func3 (by kernel_rfl)
    (of_decide_eq_true (by kernel_rfl)) (by unfold Func.isWrapper; first | (rw [if_pos (by decide +kernel)]; kernel_rfl) | (rw [if_neg (by decide +kernel)]; exact ⟨rfl, rfl⟩))
    (fun os started H enc _ => fnExactUnpackPoses_lifted os started H enc)

#print axioms fnExactUnpackPoses_holds
end Go.Proofs.Ytmfmdoppjcaedaa
