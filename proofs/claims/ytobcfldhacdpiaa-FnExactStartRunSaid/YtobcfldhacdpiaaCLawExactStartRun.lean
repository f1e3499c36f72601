/- The law FnExactStartRun answers true for all arguments. No condition. -/
import Derived.Test.YtobcfldhacdpiaaCEq2
import Derived.Test.YtobcfldhacdpiaaCSeat
import Derived.Test.YtobcfldhacdpiaaRows
set_option linter.unusedVariables false
set_option linter.unusedSimpArgs false
namespace Go.Fw
theorem v_FnExactStartRun (aM : dMachine) (aState : Int) (hok : okPs [.ro true tMachine, .ro false (.int .i64)] (aM, aState, ())) : g_w_FnExactStartRun aM aState = some true := by
  unfold g_w_FnExactStartRun
  have z0 := c_w_szMachine aM (1048576) hok.1 (by omega) (by omega)
  by_cases c0 : ((z_Machine aM : Nat) : Int) ≤ 1048576
  case neg => rw [if_neg c0] at z0; simp only [z0, opt_bind_some, show ilt (-1) 0 = true from rfl, cond_t]
  rw [if_pos c0] at z0
  rw [z0]
  simp (disch := omega) only [opt_bind_some, ilt_f, cond_f]
  have d0 : ((z_Machine aM : Nat) : Int) ≤ 1048576 := by omega
  obtain ⟨y, hs, hi, hq⟩ := e_StartRun aM aState d0 hok
  have s0 := bv_Machine aM
  have t0 := c_w_toMachine aM (by omega)
  have e0 := c_w_eqMachine aM (by omega)
  simp only [hs, hi, c_w_eqRun, t0, e0, opt_bind_some, cond_f, cond_t, bnot_t, ieq_self, beqB_self]
end Go.Fw
namespace Go.Proofs.Ytobcfldhacdpiaa
open Go.ChangeShapes Go.WideShapes Go.ChangeAt Go.RowKit Go.Fw Go.Fw.C

theorem fnExactStartRun_own : ownKnob Try.prog.godebug = none := by kernel_rfl

set_option maxRecDepth 100000 in
theorem fnExactStartRun_lifted (os : Os) (started : os.Started) (H : Type) (enc : TypeId × Value → H) :
    ReturnsInHanded {} Try.checked os 4 .any (Rows.fnExactStartRunSpec.pre6 enc Try.prog Try.f4 Rows.fnExactStartRunRow.domain false) (Rows.fnExactStartRunSpec.post enc Try.prog Try.f4 false true false false) := by
  refine returnsInHanded_of_change (C := Try.checked) fnExactStartRun_own started (by kernel_rfl) Try.func4
    (ChangeSpec.witness6 (enc := enc) (C := Try.checked) false ⟨#[], #[.agg #[.slice none 0 0, .slice none 0 0, .slice none 0 0], .int .i64 0], []⟩ 8 (by kernel_rfl) (by kernel_rfl) (by kernel_rfl) (by kernel_rfl)) ?_
  intro W base args ds gs before hval hW _ _
  exact law_of (E := E_w_FnExactStartRun) (ps := [.ro true tMachine, .ro false (.int .i64)]) ek_w_FnExactStartRun Try.func4 (by kernel_rfl) (.none (by kernel_rfl)) rfl
    (fun ds hl => by
      match ds, hl with
      | [d1, d2], _ => rfl)
    (fun ⟨aM, aState, ⟨⟩⟩ hok => (ev_w_FnExactStartRun aM aState).trans (v_FnExactStartRun aM aState hok)) hval hW

theorem fnExactStartRun_holds : Rows.FnExactStartRunSaid :=
  OpenClaim.holds_of_wide 4 Try.f4 rfl rfl rfl rfl rfl rfl rfl ⟨rfl, rfl, rfl, rfl, rfl⟩ rfl rfl rfl rfl rfl (by kernel_rfl) Try.func4 (by kernel_rfl)
    (of_decide_eq_true (by kernel_rfl)) (by unfold Func.isWrapper; first | (rw [if_pos (by decide +kernel)]; kernel_rfl) | (rw [if_neg (by decide +kernel)]; exact ⟨rfl, rfl⟩))
    (fun os started H enc _ => fnExactStartRun_lifted os started H enc)

#print axioms fnExactStartRun_holds
end Go.Proofs.Ytobcfldhacdpiaa
