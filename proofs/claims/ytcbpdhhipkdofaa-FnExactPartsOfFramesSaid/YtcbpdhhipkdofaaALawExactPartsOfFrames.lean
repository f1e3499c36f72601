/- The law FnExactPartsOfFrames answers true for all arguments. No condition. -/
import Derived.Test.YtcbpdhhipkdofaaAEq1
import Derived.Test.YtcbpdhhipkdofaaASeat
import Derived.Test.YtcbpdhhipkdofaaRows
set_option linter.unusedVariables false
set_option linter.unusedSimpArgs false
namespace Go.Fw
theorem v_FnExactPartsOfFrames (aCount : Int) (aWorkers : Int) (hok : okPs [.ro false (.int .i64), .ro false (.int .i64)] (aCount, aWorkers, ())) : g_w_FnExactPartsOfFrames aCount aWorkers = some true := by
  unfold g_w_FnExactPartsOfFrames
  obtain ⟨y, hs, hi, hq⟩ := e_PartsOfFrames aCount aWorkers hok
  have q0 : szL z_I64S y.1 ≤ 1048576 := hq
  have r0 := sumL_le b1_I64S y.1
  have e0 := c_w_eqInt64SS y.1 (by omega)
  have bm0 := c_w_markInt64SS y.1 (1) (by omega) (by omega) (by omega)
  have bh0 := c_w_heldInt64SS y.1 (1) (by omega) (by omega) (by omega)
  have bn0 : ilt (1 + (sumL c_I64S y.1 : Nat)) 0 = false := ilt_f (by omega)
  simp only [hs, hi, e0, bm0, bh0, bn0, opt_bind_some, cond_f, cond_t, bnot_t, ieq_self, beqB_self]
end Go.Fw
namespace Go.Proofs.Ytcbpdhhipkdofaa
open Go.ChangeShapes Go.WideShapes Go.ChangeAt Go.RowKit Go.Fw Go.Fw.A

theorem fnExactPartsOfFrames_own : ownKnob Try.prog.godebug = none := by kernel_rfl

set_option maxRecDepth 100000 in
theorem fnExactPartsOfFrames_lifted (os : Os) (started : os.Started) (H : Type) (enc : TypeId × Value → H) :
    ReturnsInHanded {} Try.checked os 5 .any (Rows.fnExactPartsOfFramesSpec.pre6 enc Try.prog Try.f5 Rows.fnExactPartsOfFramesRow.domain false) (Rows.fnExactPartsOfFramesSpec.post enc Try.prog Try.f5 false true false false) := by
  refine returnsInHanded_of_change (C := Try.checked) fnExactPartsOfFrames_own started (by kernel_rfl) Try.func5
    (ChangeSpec.witness6 (enc := enc) (C := Try.checked) false ⟨#[], #[.int .i64 0, .int .i64 0], []⟩ 8 (by kernel_rfl) (by kernel_rfl) (by kernel_rfl) (by kernel_rfl)) ?_
  intro W base args ds gs before hval hW _ _
  exact law_of (E := E_w_FnExactPartsOfFrames) (ps := [.ro false (.int .i64), .ro false (.int .i64)]) ek_w_FnExactPartsOfFrames Try.func5 (by kernel_rfl) (.none (by kernel_rfl)) rfl
    (fun ds hl => by
      match ds, hl with
      | [d1, d2], _ => rfl)
    (fun ⟨aCount, aWorkers, ⟨⟩⟩ hok => (ev_w_FnExactPartsOfFrames aCount aWorkers).trans (v_FnExactPartsOfFrames aCount aWorkers hok)) hval hW

theorem fnExactPartsOfFrames_holds : Rows.FnExactPartsOfFramesSaid :=
  OpenClaim.holds_of_wide 5 Try.f5 rfl rfl rfl rfl rfl rfl rfl ⟨rfl, rfl, rfl, rfl, rfl⟩ rfl rfl rfl rfl rfl (by kernel_rfl) Try.func5 (by kernel_rfl)
    (of_decide_eq_true (by kernel_rfl)) (by unfold Func.isWrapper; first | (rw [if_pos (by decide +kernel)]; kernel_rfl) | (rw [if_neg (by decide +kernel)]; exact ⟨rfl, rfl⟩))
    (fun os started H enc _ => fnExactPartsOfFrames_lifted os started H enc)

#print axioms fnExactPartsOfFrames_holds
end Go.Proofs.Ytcbpdhhipkdofaa
