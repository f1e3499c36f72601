/- The law FnExactEvenWeights answers true for all arguments. No condition. -/
import Derived.Test.YtijmellgdjcofaaBEq4
import Derived.Test.YtijmellgdjcofaaBSeat
import Derived.Test.YtijmellgdjcofaaRows
set_option linter.unusedVariables false
set_option linter.unusedSimpArgs false
namespace Go.Fw
theorem v_FnExactEvenWeights (aPoints : (List dSkinPoint)) (hok : okPs [.ro false (.slice tSkinPoint)] (aPoints, ())) : g_w_FnExactEvenWeights aPoints = some true := by
  unfold g_w_FnExactEvenWeights
  have z0 := c_w_szSkinPointS aPoints (1048576) hok.1 (by omega) (by omega)
  by_cases c0 : ((szL z_SkinPoint aPoints : Nat) : Int) ≤ 1048576
  case neg => rw [if_neg c0] at z0; simp only [z0, opt_bind_some, show ilt (-1) 0 = true from rfl, cond_t]
  rw [if_pos c0] at z0
  rw [z0]
  simp (disch := omega) only [opt_bind_some, ilt_f, cond_f]
  have d0 : ((szL z_SkinPoint aPoints : Nat) : Int) ≤ 1048576 := by omega
  obtain ⟨y, hs, hi, hq⟩ := e_EvenWeights aPoints d0 hok
  have q0 : szL z_SkinPoint y.1 ≤ 1048576 := hq
  have r0 := sumL_le b1_SkinPoint y.1
  have s0 := sumL_le b1_SkinPoint aPoints
  have t0 := c_w_toSkinPointS aPoints (by omega)
  have e0 := c_w_eqSkinPointS aPoints (by omega)
  have e1 := c_w_eqSkinPointS y.1 (by omega)
  have am0 := c_w_markSkinPointS aPoints (1) (by omega) (by omega) (by omega)
  have an0 : ilt (1 + (sumL c_SkinPoint aPoints : Nat)) 0 = false := ilt_f (by omega)
  have bm0 := c_w_markSkinPointS y.1 (1) (by omega) (by omega) (by omega)
  have bh0 := c_w_heldSkinPointS y.1 (1) (by omega) (by omega) (by omega)
  have bn0 : ilt (1 + (sumL c_SkinPoint y.1 : Nat)) 0 = false := ilt_f (by omega)
  simp only [hs, hi, t0, e0, e1, am0, an0, bm0, bh0, bn0, opt_bind_some, cond_f, cond_t, bnot_t, ieq_self, beqB_self]
end Go.Fw
namespace Go.Proofs.Ytijmellgdjcofaa
open Go.ChangeShapes Go.WideShapes Go.ChangeAt Go.RowKit Go.Fw Go.Fw.B

theorem fnExactEvenWeights_own : ownKnob Try.prog.godebug = none := by kernel_rfl

set_option maxRecDepth 100000 in
theorem fnExactEvenWeights_lifted (os : Os) (started : os.Started) (H : Type) (enc : TypeId × Value → H) :
    ReturnsInHanded {} Try.checked os 6 .any (Rows.fnExactEvenWeightsSpec.pre6 enc Try.prog Try.f6 Rows.fnExactEvenWeightsRow.domain false) (Rows.fnExactEvenWeightsSpec.post enc Try.prog Try.f6 false true false false) := by
  refine returnsInHanded_of_change (C := Try.checked) fnExactEvenWeights_own started (by kernel_rfl) Try.func6
    (ChangeSpec.witness6 (enc := enc) (C := Try.checked) false ⟨#[], #[.slice none 0 0], []⟩ 8 (by kernel_rfl) (by kernel_rfl) (by kernel_rfl) (by kernel_rfl)) ?_
  intro W base args ds gs before hval hW _ _
  exact law_of (E := E_w_FnExactEvenWeights) (ps := [.ro false (.slice tSkinPoint)]) ek_w_FnExactEvenWeights Try.func6 (by kernel_rfl) (.none (by kernel_rfl)) rfl
    (fun ds hl => by
      match ds, hl with
      | [d1], _ => rfl)
    (fun ⟨aPoints, ⟨⟩⟩ hok => (ev_w_FnExactEvenWeights aPoints).trans (v_FnExactEvenWeights aPoints hok)) hval hW

theorem fnExactEvenWeights_holds : Rows.FnExactEvenWeightsSaid :=
  OpenClaim.holds_of_wide 6 Try.f6 rfl rfl rfl rfl rfl rfl rfl ⟨rfl, rfl, rfl, rfl, rfl⟩ rfl rfl rfl rfl rfl (by kernel_rfl) Try.func6 (by kernel_rfl)
    (of_decide_eq_true (by kernel_rfl)) (by unfold Func.isWrapper; first | (rw [if_pos (by decide +kernel)]; kernel_rfl) | (rw [if_neg (by decide +kernel)]; exact ⟨rfl, rfl⟩))
    (fun os started H enc _ => fnExactEvenWeights_lifted os started H enc)

#print axioms fnExactEvenWeights_holds
end Go.Proofs.Ytijmellgdjcofaa
