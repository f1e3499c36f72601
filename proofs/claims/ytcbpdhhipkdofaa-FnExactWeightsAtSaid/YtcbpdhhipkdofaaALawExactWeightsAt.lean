/- The law FnExactWeightsAt answers true for all arguments. No condition. -/
import Derived.Test.YtcbpdhhipkdofaaAEq1
import Derived.Test.YtcbpdhhipkdofaaASeat
import Derived.Test.YtcbpdhhipkdofaaRows
set_option linter.unusedVariables false
set_option linter.unusedSimpArgs false
namespace Go.Fw
theorem v_FnExactWeightsAt (aPoints : (List Nat)) (aX : Nat) (hok : okPs [.ro false (.slice (.flt .f32)), .ro false (.flt .f32)] (aPoints, aX, ())) : g_w_FnExactWeightsAt aPoints aX = some true := by
  unfold g_w_FnExactWeightsAt
  have hz : szL z_F32 aPoints = aPoints.length := szL_zero aPoints
  by_cases c0 : (1048576 : Int) < aPoints.length
  · rw [ilt_t c0]; rfl
  have d0 : (szL z_F32 aPoints : Int) ≤ 1048576 := by omega
  rw [ilt_f (by omega), cond_f]
  obtain ⟨y, hs, hi, hq⟩ := e_WeightsAt aPoints aX d0 hok
  have q0 : szL z_F32 y.1 ≤ 1048576 := hq
  have r0 := sumL_le b1_F32 y.1
  have s0 := sumL_le b1_F32 aPoints
  have t0 := c_w_toFloat32S aPoints (by omega)
  have e0 := c_w_eqFloat32S aPoints (by omega)
  have e1 := c_w_eqFloat32S y.1 (by omega)
  have am0 := c_w_markFloat32S aPoints (1) (by omega) (by omega) (by omega)
  have an0 : ilt (1 + (sumL c_F32 aPoints : Nat)) 0 = false := ilt_f (by omega)
  have bm0 := c_w_markFloat32S y.1 (1) (by omega) (by omega) (by omega)
  have bh0 := c_w_heldFloat32S y.1 (1) (by omega) (by omega) (by omega)
  have bn0 : ilt (1 + (sumL c_F32 y.1 : Nat)) 0 = false := ilt_f (by omega)
  simp only [hs, hi, t0, e0, e1, am0, an0, bm0, bh0, bn0, opt_bind_some, cond_f, cond_t, bnot_t, ieq_self, beqB_self]
end Go.Fw
namespace Go.Proofs.Ytcbpdhhipkdofaa
open Go.ChangeShapes Go.WideShapes Go.ChangeAt Go.RowKit Go.Fw Go.Fw.A

theorem fnExactWeightsAt_own : ownKnob Try.prog.godebug = none := by kernel_rfl

set_option maxRecDepth 100000 in
theorem fnExactWeightsAt_lifted (os : Os) (started : os.Started) (H : Type) (enc : TypeId × Value → H) :
    ReturnsInHanded {} Try.checked os 6 .any (Rows.fnExactWeightsAtSpec.pre6 enc Try.prog Try.f6 Rows.fnExactWeightsAtRow.domain false) (Rows.fnExactWeightsAtSpec.post enc Try.prog Try.f6 false true false false) := by
  refine returnsInHanded_of_change (C := Try.checked) fnExactWeightsAt_own started (by kernel_rfl) Try.func6
    (ChangeSpec.witness6 (enc := enc) (C := Try.checked) false ⟨#[], #[.slice none 0 0, .float .f32 0], []⟩ 8 (by kernel_rfl) (by kernel_rfl) (by kernel_rfl) (by kernel_rfl)) ?_
  intro W base args ds gs before hval hW _ _
  exact law_of (E := E_w_FnExactWeightsAt) (ps := [.ro false (.slice (.flt .f32)), .ro false (.flt .f32)]) ek_w_FnExactWeightsAt Try.func6 (by kernel_rfl) (.none (by kernel_rfl)) rfl
    (fun ds hl => by
      match ds, hl with
      | [d1, d2], _ => rfl)
    (fun ⟨aPoints, aX, ⟨⟩⟩ hok => (ev_w_FnExactWeightsAt aPoints aX).trans (v_FnExactWeightsAt aPoints aX hok)) hval hW

theorem fnExactWeightsAt_holds : Rows.FnExactWeightsAtSaid :=
  OpenClaim.holds_of_wide 6 Try.f6 rfl rfl rfl rfl rfl rfl rfl ⟨rfl, rfl, rfl, rfl, rfl⟩ rfl rfl rfl rfl rfl (by kernel_rfl) Try.func6 (by kernel_rfl)
    (of_decide_eq_true (by kernel_rfl)) (by unfold Func.isWrapper; first | (rw [if_pos (by decide +kernel)]; kernel_rfl) | (rw [if_neg (by decide +kernel)]; exact ⟨rfl, rfl⟩))
    (fun os started H enc _ => fnExactWeightsAt_lifted os started H enc)

#print axioms fnExactWeightsAt_holds
end Go.Proofs.Ytcbpdhhipkdofaa
