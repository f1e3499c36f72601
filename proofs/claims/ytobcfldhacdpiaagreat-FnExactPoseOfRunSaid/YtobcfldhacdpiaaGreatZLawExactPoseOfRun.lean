/- The law FnExactPoseOfRun answers true for all arguments. No condition. -/
import Derived.Test.YtobcfldhacdpiaaGreatZEq3
import Derived.Test.YtobcfldhacdpiaaGreatZSeat
import Derived.Test.YtobcfldhacdpiaaGreatRows
set_option linter.unusedVariables false
set_option linter.unusedSimpArgs false
namespace Go.Fw
theorem v_FnExactPoseOfRun (aM : dMachine) (aR : dRun) (hok : okPs [.ro true tMachine, .ro true tRun] (aM, aR, ())) : g_w_FnExactPoseOfRun aM aR = some true := by
  unfold g_w_FnExactPoseOfRun
  have z0 := c_w_szMachine aM (1048576) hok.1 (by omega) (by omega)
  by_cases c0 : ((z_Machine aM : Nat) : Int) ≤ 1048576
  case neg => rw [if_neg c0] at z0; simp only [z0, opt_bind_some, show ilt (-1) 0 = true from rfl, cond_t]
  rw [if_pos c0] at z0
  rw [z0]
  simp (disch := omega) only [opt_bind_some, ilt_f, cond_f]
  have d0 : ((z_Machine aM : Nat) : Int) ≤ 1048576 := by omega
  obtain ⟨y, hs, hi, hq⟩ := e_PoseOfRun aM aR d0 hok
  have q0 : z_Pose y.1 ≤ 1048576 := hq
  have r0 := bv_Pose y.1
  have s0 := bv_Machine aM
  have t0 := c_w_toMachine aM (by omega)
  have e0 := c_w_eqMachine aM (by omega)
  have e1 := c_w_eqPose y.1 (by omega)
  have am0 := c_w_markMachine aM (1) (by omega) (by omega) (by omega)
  have an0 : ilt (1 + (cv_Machine aM : Nat)) 0 = false := ilt_f (by omega)
  have bm0 := c_w_markPose y.1 (1) (by omega) (by omega) (by omega)
  have bh0 := c_w_heldPose y.1 (1) (by omega) (by omega) (by omega)
  have bp0 : (y.1.1, (mv_Pose y.1 (1)).2) = mv_Pose y.1 (1) := rfl
  have bn0 : ilt (1 + (cv_Pose y.1 : Nat)) 0 = false := ilt_f (by omega)
  simp only [hs, hi, c_w_toRun, t0, e0, e1, am0, an0, bm0, bh0, bp0, bn0, opt_bind_some, cond_f, cond_t, bnot_t, ieq_self, beqB_self]
end Go.Fw
namespace Go.Proofs.YtobcfldhacdpiaaGreat
open Go.ChangeShapes Go.WideShapes Go.ChangeAt Go.RowKit Go.Fw Go.Fw.Z

theorem fnExactPoseOfRun_own : ownKnob Tryz.prog.godebug = none := by kernel_rfl

set_option maxRecDepth 100000 in
theorem fnExactPoseOfRun_lifted (os : Os) (started : os.Started) (H : Type) (enc : TypeId × Value → H) :
    ReturnsInHanded {} Tryz.checked os 5 .any (Rows.fnExactPoseOfRunSpec.pre6 enc Tryz.prog Tryz.f5 Rows.fnExactPoseOfRunRow.domain false) (Rows.fnExactPoseOfRunSpec.post enc Tryz.prog Tryz.f5 false true false false) := by
  refine returnsInHanded_of_change (C := Tryz.checked) fnExactPoseOfRun_own started (by kernel_rfl) Tryz.func5
    (ChangeSpec.witness6 (enc := enc) (C := Tryz.checked) false ⟨#[], #[.agg #[.slice none 0 0, .slice none 0 0, .slice none 0 0], .agg #[.int .i64 0, .int .i64 0, .int .i64 0, .int .i64 0, .int .i64 0, .int .i64 0]], []⟩ 8 (by kernel_rfl) (by kernel_rfl) (by kernel_rfl) (by kernel_rfl)) ?_
  intro W base args ds gs before hval hW _ _
  exact law_of (E := E_w_FnExactPoseOfRun) (ps := [.ro true tMachine, .ro true tRun]) ek_w_FnExactPoseOfRun Tryz.func5 (by kernel_rfl) (.none (by kernel_rfl)) rfl
    (fun ds hl => by
      match ds, hl with
      | [d1, d2], _ => rfl)
    (fun ⟨aM, aR, ⟨⟩⟩ hok => (ev_w_FnExactPoseOfRun aM aR).trans (v_FnExactPoseOfRun aM aR hok)) hval hW

theorem fnExactPoseOfRun_holds : Rows.FnExactPoseOfRunSaid :=
  OpenClaim.holds_of_wide 5 Tryz.f5 rfl rfl rfl rfl rfl rfl rfl ⟨rfl, rfl, rfl, rfl, rfl⟩ rfl rfl rfl rfl rfl (by kernel_rfl) Tryz.func5 (by kernel_rfl)
    (of_decide_eq_true (by kernel_rfl)) (by unfold Func.isWrapper; first | (rw [if_pos (by decide +kernel)]; kernel_rfl) | (rw [if_neg (by decide +kernel)]; exact ⟨rfl, rfl⟩))
    (fun os started H enc _ => fnExactPoseOfRun_lifted os started H enc)

#print axioms fnExactPoseOfRun_holds
end Go.Proofs.YtobcfldhacdpiaaGreat
