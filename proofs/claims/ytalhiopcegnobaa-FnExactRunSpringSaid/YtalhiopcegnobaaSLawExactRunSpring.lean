/- The law FnExactRunSpring answers true for all arguments. No condition. -/
import Derived.Test.YtalhiopcegnobaaSEq1
import Derived.Test.YtalhiopcegnobaaSSeat
import Derived.Test.YtalhiopcegnobaaRows
set_option linter.unusedVariables false
set_option linter.unusedSimpArgs false
namespace Go.Fw
theorem v_FnExactRunSpring (aS : dTurn) (aGoals : (List Nat)) (hok : okPs [.ro true tTurn, .ro false (.slice (.flt .f32))] (aS, aGoals, ())) : g_w_FnExactRunSpring aS aGoals = some true := by
  unfold g_w_FnExactRunSpring
  have hz1 : szL z_F32 aGoals = aGoals.length := szL_zero aGoals
  by_cases c1 : (1048576 : Int) < aGoals.length
  · rw [ilt_t c1]; rfl
  have d1 : (szL z_F32 aGoals : Int) ≤ 1048576 := by omega
  rw [ilt_f (by omega), cond_f]
  obtain ⟨y, hs, hi, hq⟩ := e_RunSpring aS aGoals d1 hok
  have q0 : szL z_F32 y.1 ≤ 1048576 := hq
  have r0 := sumL_le b1_F32 y.1
  have s1 := sumL_le b1_F32 aGoals
  have t0 := c_w_toFloat32S aGoals (by omega)
  have e0 := c_w_eqFloat32S aGoals (by omega)
  have e1 := c_w_eqFloat32S y.1 (by omega)
  have am0 := c_w_markFloat32S aGoals (1) (by omega) (by omega) (by omega)
  have an0 : ilt (1 + (sumL c_F32 aGoals : Nat)) 0 = false := ilt_f (by omega)
  have bm0 := c_w_markFloat32S y.1 (1) (by omega) (by omega) (by omega)
  have bh0 := c_w_heldFloat32S y.1 (1) (by omega) (by omega) (by omega)
  have bn0 : ilt (1 + (sumL c_F32 y.1 : Nat)) 0 = false := ilt_f (by omega)
  simp only [hs, hi, c_w_toSpring, c_w_eqSpring, t0, e0, e1, am0, an0, bm0, bh0, bn0, opt_bind_some, cond_f, cond_t, bnot_t, ieq_self, beqB_self]
end Go.Fw
namespace Go.Proofs.Ytalhiopcegnobaa
open Go.ChangeShapes Go.WideShapes Go.ChangeAt Go.RowKit Go.Fw Go.Fw.S

theorem fnExactRunSpring_own : ownKnob Try.prog.godebug = none := by kernel_rfl

set_option maxRecDepth 100000 in
theorem fnExactRunSpring_lifted (os : Os) (started : os.Started) (H : Type) (enc : TypeId × Value → H) :
    ReturnsInHanded {} Try.checked os 9 .any (Rows.fnExactRunSpringSpec.pre6 enc Try.prog Try.f9 Rows.fnExactRunSpringRow.domain false) (Rows.fnExactRunSpringSpec.post enc Try.prog Try.f9 false true false false) := by
  refine returnsInHanded_of_change (C := Try.checked) fnExactRunSpring_own started (by kernel_rfl) Try.func9
    (ChangeSpec.witness6 (enc := enc) (C := Try.checked) false ⟨#[], #[.agg #[.float .f32 0, .float .f32 0, .float .f32 0, .float .f32 0], .slice none 0 0], []⟩ 8 (by kernel_rfl) (by kernel_rfl) (by kernel_rfl) (by kernel_rfl)) ?_
  intro W base args ds gs before hval hW _ _
  exact law_of (E := E_w_FnExactRunSpring) (ps := [.ro true tTurn, .ro false (.slice (.flt .f32))]) ek_w_FnExactRunSpring Try.func9 (by kernel_rfl) (.none (by kernel_rfl)) rfl
    (fun ds hl => by
      match ds, hl with
      | [d1, d2], _ => rfl)
    (fun ⟨aS, aGoals, ⟨⟩⟩ hok => (ev_w_FnExactRunSpring aS aGoals).trans (v_FnExactRunSpring aS aGoals hok)) hval hW

theorem fnExactRunSpring_holds : Rows.FnExactRunSpringSaid :=
  OpenClaim.holds_of_wide 9 Try.f9 rfl rfl rfl rfl rfl rfl rfl ⟨rfl, rfl, rfl, rfl, rfl⟩ rfl rfl rfl rfl rfl (by kernel_rfl) Try.func9 (by kernel_rfl)
    (of_decide_eq_true (by kernel_rfl)) (by unfold Func.isWrapper; first | (rw [if_pos (by decide +kernel)]; kernel_rfl) | (rw [if_neg (by decide +kernel)]; exact ⟨rfl, rfl⟩))
    (fun os started H enc _ => fnExactRunSpring_lifted os started H enc)

#print axioms fnExactRunSpring_holds
end Go.Proofs.Ytalhiopcegnobaa
