/- The law FnExactStepRun answers true for all arguments. No condition. -/
import Derived.Test.YtobcfldhacdpiaaGreatZEq1
import Derived.Test.YtobcfldhacdpiaaGreatZSeat
import Derived.Test.YtobcfldhacdpiaaGreatRows
set_option linter.unusedVariables false
set_option linter.unusedSimpArgs false
namespace Go.Fw
theorem v_FnExactStepRun (aM : dMachine) (aR : dRun) (aInputs : (List Nat)) (hok : okPs [.ro true tMachine, .ro true tRun, .ro false (.slice (.flt .f32))] (aM, aR, aInputs, ())) : g_w_FnExactStepRun aM aR aInputs = some true := by
  unfold g_w_FnExactStepRun
  have hz2 : szL z_F32 aInputs = aInputs.length := szL_zero aInputs
  by_cases c2 : (1048576 : Int) < aInputs.length
  · rw [ilt_t c2]; rfl
  have d2 : (szL z_F32 aInputs : Int) ≤ 1048576 := by omega
  rw [ilt_f (by omega), cond_f]
  have z0 := c_w_szMachine aM (1048576) hok.1 (by omega) (by omega)
  by_cases c0 : ((z_Machine aM : Nat) : Int) ≤ 1048576
  case neg => rw [if_neg c0] at z0; simp only [z0, opt_bind_some, show ilt (-1) 0 = true from rfl, cond_t]
  rw [if_pos c0] at z0
  rw [z0]
  simp (disch := omega) only [opt_bind_some, ilt_f, cond_f]
  have d0 : ((z_Machine aM : Nat) : Int) ≤ 1048576 := by omega
  obtain ⟨y, hs, hi, hq⟩ := e_StepRun aM aR aInputs d0 d2 hok
  have s0 := bv_Machine aM
  have s2 := sumL_le b1_F32 aInputs
  have t0 := c_w_toMachine aM (by omega)
  have t1 := c_w_toFloat32S aInputs (by omega)
  have e0 := c_w_eqMachine aM (by omega)
  have e1 := c_w_eqFloat32S aInputs (by omega)
  simp only [hs, hi, c_w_toRun, c_w_eqRun, t0, t1, e0, e1, opt_bind_some, cond_f, cond_t, bnot_t, ieq_self, beqB_self]
end Go.Fw
namespace Go.Proofs.YtobcfldhacdpiaaGreat
open Go.ChangeShapes Go.WideShapes Go.ChangeAt Go.RowKit Go.Fw Go.Fw.Z

theorem fnExactStepRun_own : ownKnob Tryz.prog.godebug = none := by kernel_rfl

set_option maxRecDepth 100000 in
theorem fnExactStepRun_lifted (os : Os) (started : os.Started) (H : Type) (enc : TypeId × Value → H) :
    ReturnsInHanded {} Tryz.checked os 3 .any (Rows.fnExactStepRunSpec.pre6 enc Tryz.prog Tryz.f3 Rows.fnExactStepRunRow.domain false) (Rows.fnExactStepRunSpec.post enc Tryz.prog Tryz.f3 false true false false) := by
  refine returnsInHanded_of_change (C := Tryz.checked) fnExactStepRun_own started (by kernel_rfl) Tryz.func3
    (ChangeSpec.witness6 (enc := enc) (C := Tryz.checked) false ⟨#[], #[.agg #[.slice none 0 0, .slice none 0 0, .slice none 0 0], .agg #[.int .i64 0, .int .i64 0, .int .i64 0, .int .i64 0, .int .i64 0, .int .i64 0], .slice none 0 0], []⟩ 8 (by kernel_rfl) (by kernel_rfl) (by kernel_rfl) (by kernel_rfl)) ?_
  intro W base args ds gs before hval hW _ _
  exact law_of (E := E_w_FnExactStepRun) (ps := [.ro true tMachine, .ro true tRun, .ro false (.slice (.flt .f32))]) ek_w_FnExactStepRun Tryz.func3 (by kernel_rfl) (.none (by kernel_rfl)) rfl
    (fun ds hl => by
      match ds, hl with
      | [d1, d2, d3], _ => rfl)
    (fun ⟨aM, aR, aInputs, ⟨⟩⟩ hok => (ev_w_FnExactStepRun aM aR aInputs).trans (v_FnExactStepRun aM aR aInputs hok)) hval hW

theorem fnExactStepRun_holds : Rows.FnExactStepRunSaid :=
  OpenClaim.holds_of_wide 3 Tryz.f3 rfl rfl rfl rfl rfl rfl rfl ⟨rfl, rfl, rfl, rfl, rfl⟩ rfl rfl rfl rfl rfl (by kernel_rfl) Tryz.func3 (by kernel_rfl)
    (of_decide_eq_true (by kernel_rfl)) (by unfold Func.isWrapper; first | (rw [if_pos (by decide +kernel)]; kernel_rfl) | (rw [if_neg (by decide +kernel)]; exact ⟨rfl, rfl⟩))
    (fun os started H enc _ => fnExactStepRun_lifted os started H enc)

#print axioms fnExactStepRun_holds
end Go.Proofs.YtobcfldhacdpiaaGreat
