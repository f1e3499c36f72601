/- The law FnExactRunMachine answers true for all arguments. No condition. -/
import Derived.Test.YtobcfldhacdpiaaGreatZEq4
import Derived.Test.YtobcfldhacdpiaaGreatZSeat
import Derived.Test.YtobcfldhacdpiaaGreatRows
set_option linter.unusedVariables false
set_option linter.unusedSimpArgs false
namespace Go.Fw
theorem v_FnExactRunMachine (aM : dMachine) (aR : dRun) (aInputs : (List (List Nat))) (hok : okPs [.ro true tMachine, .ro true tRun, .ro false (.slice (.slice (.flt .f32)))] (aM, aR, aInputs, ())) : g_w_FnExactRunMachine aM aR aInputs = some true := by
  unfold g_w_FnExactRunMachine
  have z0 := c_w_szMachine aM (1048576) hok.1 (by omega) (by omega)
  by_cases c0 : ((z_Machine aM : Nat) : Int) ≤ 1048576
  case neg => rw [if_neg c0] at z0; simp only [z0, opt_bind_some, show ilt (-1) 0 = true from rfl, cond_t]
  rw [if_pos c0] at z0
  rw [z0]
  simp (disch := omega) only [opt_bind_some, ilt_f, cond_f]
  have d0 : ((z_Machine aM : Nat) : Int) ≤ 1048576 := by omega
  have z2 := c_w_szFloat32SS aInputs (1048576 - (z_Machine aM : Nat)) hok.2.2.1 (by omega) (by omega)
  by_cases c2 : ((szL z_F32S aInputs : Nat) : Int) ≤ 1048576 - (z_Machine aM : Nat)
  case neg => rw [if_neg c2] at z2; simp only [z2, opt_bind_some, show ilt (-1) 0 = true from rfl, cond_t]
  rw [if_pos c2] at z2
  rw [z2]
  simp (disch := omega) only [opt_bind_some, ilt_f, cond_f]
  have d2 : ((szL z_F32S aInputs : Nat) : Int) ≤ 1048576 := by omega
  obtain ⟨y, hs, hi, hq⟩ := e_RunMachine aM aR aInputs d0 d2 hok
  have q0 : szL z_Pose y.2.1 ≤ 1048576 := hq
  have r0 := sumL_le b1_Pose y.2.1
  have s0 := bv_Machine aM
  have s2 := sumL_le b1_F32S aInputs
  have t0 := c_w_toMachine aM (by omega)
  have t1 := c_w_toFloat32SS aInputs (by omega)
  have e0 := c_w_eqMachine aM (by omega)
  have e1 := c_w_eqFloat32SS aInputs (by omega)
  have e2 := c_w_eqPoseS y.2.1 (by omega)
  have am0 := c_w_markMachine aM (1) (by omega) (by omega) (by omega)
  have an0 : ilt (1 + (cv_Machine aM : Nat)) 0 = false := ilt_f (by omega)
  have am1 := c_w_markFloat32SS aInputs (1 + (cv_Machine aM : Nat)) (by omega) (by omega) (by omega)
  have an1 : ilt (1 + (cv_Machine aM : Nat) + (sumL c_F32S aInputs : Nat)) 0 = false := ilt_f (by omega)
  have bm0 := c_w_markPoseS y.2.1 (1) (by omega) (by omega) (by omega)
  have bh0 := c_w_heldPoseS y.2.1 (1) (by omega) (by omega) (by omega)
  have bn0 : ilt (1 + (sumL c_Pose y.2.1 : Nat)) 0 = false := ilt_f (by omega)
  simp only [hs, hi, c_w_toRun, c_w_eqRun, t0, t1, e0, e1, e2, am0, an0, am1, an1, bm0, bh0, bn0, opt_bind_some, cond_f, cond_t, bnot_t, ieq_self, beqB_self]
end Go.Fw
namespace Go.Proofs.YtobcfldhacdpiaaGreat
open Go.ChangeShapes Go.WideShapes Go.ChangeAt Go.RowKit Go.Fw Go.Fw.Z

theorem fnExactRunMachine_own : ownKnob Tryz.prog.godebug = none := by kernel_rfl

set_option maxRecDepth 100000 in
theorem fnExactRunMachine_lifted (os : Os) (started : os.Started) (H : Type) (enc : TypeId × Value → H) :
    ReturnsInHanded {} Tryz.checked os 7 .any (Rows.fnExactRunMachineSpec.pre6 enc Tryz.prog Tryz.f7 Rows.fnExactRunMachineRow.domain false) (Rows.fnExactRunMachineSpec.post enc Tryz.prog Tryz.f7 false true false false) := by
  refine returnsInHanded_of_change (C := Tryz.checked) fnExactRunMachine_own started (by kernel_rfl) Tryz.func7
    (ChangeSpec.witness6 (enc := enc) (C := Tryz.checked) false ⟨#[], #[.agg #[.slice none 0 0, .slice none 0 0, .slice none 0 0], .agg #[.int .i64 0, .int .i64 0, .int .i64 0, .int .i64 0, .int .i64 0, .int .i64 0], .slice none 0 0], []⟩ 8 (by kernel_rfl) (by kernel_rfl) (by kernel_rfl) (by kernel_rfl)) ?_
  intro W base args ds gs before hval hW _ _
  exact law_of (E := E_w_FnExactRunMachine) (ps := [.ro true tMachine, .ro true tRun, .ro false (.slice (.slice (.flt .f32)))]) ek_w_FnExactRunMachine Tryz.func7 (by kernel_rfl) (.none (by kernel_rfl)) rfl
    (fun ds hl => by
      match ds, hl with
      | [d1, d2, d3], _ => rfl)
    (fun ⟨aM, aR, aInputs, ⟨⟩⟩ hok => (ev_w_FnExactRunMachine aM aR aInputs).trans (v_FnExactRunMachine aM aR aInputs hok)) hval hW

theorem fnExactRunMachine_holds : Rows.FnExactRunMachineSaid :=
  OpenClaim.holds_of_wide 7 Tryz.f7 rfl rfl rfl rfl rfl rfl rfl ⟨rfl, rfl, rfl, rfl, rfl⟩ rfl rfl rfl rfl rfl (by kernel_rfl) Tryz.func7 (by kernel_rfl)
    (of_decide_eq_true (by kernel_rfl)) (by unfold Func.isWrapper; first | (rw [if_pos (by decide +kernel)]; kernel_rfl) | (rw [if_neg (by decide +kernel)]; exact ⟨rfl, rfl⟩))
    (fun os started H enc _ => fnExactRunMachine_lifted os started H enc)

#print axioms fnExactRunMachine_holds
end Go.Proofs.YtobcfldhacdpiaaGreat
