/- The law FnExactIsRun answers true for all arguments. No condition. -/
import Derived.Test.YtobcfldhacdpiaaCEq3
import Derived.Test.YtobcfldhacdpiaaCSeat
import Derived.Test.YtobcfldhacdpiaaRows
set_option linter.unusedVariables false
set_option linter.unusedSimpArgs false
namespace Go.Fw
theorem v_FnExactIsRun (aM : dMachine) (aR : dRun) (hok : okPs [.ro true tMachine, .ro true tRun] (aM, aR, ())) : g_w_FnExactIsRun aM aR = some true := by
  unfold g_w_FnExactIsRun
  have z0 := c_w_szMachine aM (1048576) hok.1 (by omega) (by omega)
  by_cases c0 : ((z_Machine aM : Nat) : Int) ≤ 1048576
  case neg => rw [if_neg c0] at z0; simp only [z0, opt_bind_some, show ilt (-1) 0 = true from rfl, cond_t]
  rw [if_pos c0] at z0
  rw [z0]
  simp (disch := omega) only [opt_bind_some, ilt_f, cond_f]
  have d0 : ((z_Machine aM : Nat) : Int) ≤ 1048576 := by omega
  obtain ⟨y, hs, hi, hq⟩ := e_IsRun aM aR d0 hok
  have s0 := bv_Machine aM
  have t0 := c_w_toMachine aM (by omega)
  have e0 := c_w_eqMachine aM (by omega)
  simp only [hs, hi, c_w_toRun, t0, e0, opt_bind_some, cond_f, cond_t, bnot_t, ieq_self, beqB_self]
end Go.Fw
namespace Go.Proofs.Ytobcfldhacdpiaa
open Go.ChangeShapes Go.WideShapes Go.ChangeAt Go.RowKit Go.Fw Go.Fw.C

theorem fnExactIsRun_own : ownKnob Try.prog.godebug = none := by kernel_rfl

set_option maxRecDepth 100000 in
theorem fnExactIsRun_lifted (os : Os) (started : os.Started) (H : Type) (enc : TypeId × Value → H) :
    ReturnsInHanded {} Try.checked os 5 .any (Rows.fnExactIsRunSpec.pre6 enc Try.prog Try.f5 Rows.fnExactIsRunRow.domain false) (Rows.fnExactIsRunSpec.post enc Try.prog Try.f5 false true false false) := by
  refine returnsInHanded_of_change (C := Try.checked) fnExactIsRun_own started (by kernel_rfl) Try.func5
    (ChangeSpec.witness6 (enc := enc) (C := Try.checked) false ⟨#[], #[.agg #[.slice none 0 0, .slice none 0 0, .slice none 0 0], .agg #[.int .i64 0, .int .i64 0, .int .i64 0, .int .i64 0, .int .i64 0, .int .i64 0]], []⟩ 8 (by kernel_rfl) (by kernel_rfl) (by kernel_rfl) (by kernel_rfl)) ?_
  intro W base args ds gs before hval hW _ _
  exact law_of (E := E_w_FnExactIsRun) (ps := [.ro true tMachine, .ro true tRun]) ek_w_FnExactIsRun Try.func5 (by kernel_rfl) (.none (by kernel_rfl)) rfl
    (fun ds hl => by
      match ds, hl with
      | [d1, d2], _ => rfl)
    (fun ⟨aM, aR, ⟨⟩⟩ hok => (ev_w_FnExactIsRun aM aR).trans (v_FnExactIsRun aM aR hok)) hval hW

theorem fnExactIsRun_holds : Rows.FnExactIsRunSaid :=
  OpenClaim.holds_of_wide 5 Try.f5 rfl rfl rfl rfl rfl rfl rfl ⟨rfl, rfl, rfl, rfl, rfl⟩ rfl rfl rfl rfl rfl (by kernel_rfl) Try.func5 (by kernel_rfl)
    (of_decide_eq_true (by kernel_rfl)) (by unfold Func.isWrapper; first | (rw [if_pos (by decide +kernel)]; kernel_rfl) | (rw [if_neg (by decide +kernel)]; exact ⟨rfl, rfl⟩))
    (fun os started H enc _ => fnExactIsRun_lifted os started H enc)

#print axioms fnExactIsRun_holds
end Go.Proofs.Ytobcfldhacdpiaa
