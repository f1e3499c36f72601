/- The law FnExactReachedStates answers true for all arguments. No condition. -/
import Derived.Test.YtobcfldhacdpiaaGreatZEq5
import Derived.Test.YtobcfldhacdpiaaGreatZSeat
import Derived.Test.YtobcfldhacdpiaaGreatRows
set_option linter.unusedVariables false
set_option linter.unusedSimpArgs false
namespace Go.Fw
theorem v_FnExactReachedStates (aM : dMachine) (aState : Int) (hok : okPs [.ro true tMachine, .ro false (.int .i64)] (aM, aState, ())) : g_w_FnExactReachedStates aM aState = some true := by
  unfold g_w_FnExactReachedStates
  have z0 := c_w_szMachine aM (1048576) hok.1 (by omega) (by omega)
  by_cases c0 : ((z_Machine aM : Nat) : Int) ≤ 1048576
  case neg => rw [if_neg c0] at z0; simp only [z0, opt_bind_some, show ilt (-1) 0 = true from rfl, cond_t]
  rw [if_pos c0] at z0
  rw [z0]
  simp (disch := omega) only [opt_bind_some, ilt_f, cond_f]
  have d0 : ((z_Machine aM : Nat) : Int) ≤ 1048576 := by omega
  obtain ⟨y, hs, hi, hq⟩ := e_ReachedStates aM aState d0 hok
  have q0 : szL z_I64 y.1 ≤ 1048576 := hq
  have r0 := sumL_le b1_I64 y.1
  have s0 := bv_Machine aM
  have t0 := c_w_toMachine aM (by omega)
  have e0 := c_w_eqMachine aM (by omega)
  have e1 := c_w_eqInt64S y.1 (by omega)
  have am0 := c_w_markMachine aM (1) (by omega) (by omega) (by omega)
  have an0 : ilt (1 + (cv_Machine aM : Nat)) 0 = false := ilt_f (by omega)
  have bm0 := c_w_markInt64S y.1 (1) (by omega) (by omega) (by omega)
  have bh0 := c_w_heldInt64S y.1 (1) (by omega) (by omega) (by omega)
  have bn0 : ilt (1 + (sumL c_I64 y.1 : Nat)) 0 = false := ilt_f (by omega)
  simp only [hs, hi, t0, e0, e1, am0, an0, bm0, bh0, bn0, opt_bind_some, cond_f, cond_t, bnot_t, ieq_self, beqB_self]
end Go.Fw
namespace Go.Proofs.YtobcfldhacdpiaaGreat
open Go.ChangeShapes Go.WideShapes Go.ChangeAt Go.RowKit Go.Fw Go.Fw.Z

theorem fnExactReachedStates_own : ownKnob Tryz.prog.godebug = none := by kernel_rfl

set_option maxRecDepth 100000 in
theorem fnExactReachedStates_lifted (os : Os) (started : os.Started) (H : Type) (enc : TypeId × Value → H) :
    ReturnsInHanded {} Tryz.checked os 6 .any (Rows.fnExactReachedStatesSpec.pre6 enc Tryz.prog Tryz.f6 Rows.fnExactReachedStatesRow.domain false) (Rows.fnExactReachedStatesSpec.post enc Tryz.prog Tryz.f6 false true false false) := by
  refine returnsInHanded_of_change (C := Tryz.checked) fnExactReachedStates_own started (by kernel_rfl) Tryz.func6
    (ChangeSpec.witness6 (enc := enc) (C := Tryz.checked) false ⟨#[], #[.agg #[.slice none 0 0, .slice none 0 0, .slice none 0 0], .int .i64 0], []⟩ 8 (by kernel_rfl) (by kernel_rfl) (by kernel_rfl) (by kernel_rfl)) ?_
  intro W base args ds gs before hval hW _ _
  exact law_of (E := E_w_FnExactReachedStates) (ps := [.ro true tMachine, .ro false (.int .i64)]) ek_w_FnExactReachedStates Tryz.func6 (by kernel_rfl) (.none (by kernel_rfl)) rfl
    (fun ds hl => by
      match ds, hl with
      | [d1, d2], _ => rfl)
    (fun ⟨aM, aState, ⟨⟩⟩ hok => (ev_w_FnExactReachedStates aM aState).trans (v_FnExactReachedStates aM aState hok)) hval hW

theorem fnExactReachedStates_holds : Rows.FnExactReachedStatesSaid :=
  OpenClaim.holds_of_wide 6 Tryz.f6 rfl rfl rfl rfl rfl rfl rfl ⟨rfl, rfl, rfl, rfl, rfl⟩ rfl rfl rfl rfl rfl (by kernel_rfl) Tryz.func6 (by kernel_rfl)
    (of_decide_eq_true (by kernel_rfl)) (by unfold Func.isWrapper; first | (rw [if_pos (by decide +kernel)]; kernel_rfl) | (rw [if_neg (by decide +kernel)]; exact ⟨rfl, rfl⟩))
    (fun os started H enc _ => fnExactReachedStates_lifted os started H enc)

#print axioms fnExactReachedStates_holds
end Go.Proofs.YtobcfldhacdpiaaGreat
