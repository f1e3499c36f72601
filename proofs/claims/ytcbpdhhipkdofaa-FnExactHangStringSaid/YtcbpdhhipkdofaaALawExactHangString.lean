/- The law FnExactHangString answers true for all arguments. No condition. -/
import Derived.Test.YtcbpdhhipkdofaaAEq4
import Derived.Test.YtcbpdhhipkdofaaASeat
import Derived.Test.YtcbpdhhipkdofaaRows
set_option linter.unusedVariables false
set_option linter.unusedSimpArgs false
namespace Go.Fw
theorem v_FnExactHangString (aFrom : dVec) (aCount : Int) (aLength : Nat) (hok : okPs [.ro true tVec, .ro false (.int .i64), .ro false (.flt .f32)] (aFrom, aCount, aLength, ())) : g_w_FnExactHangString aFrom aCount aLength = some true := by
  unfold g_w_FnExactHangString
  obtain ⟨y, hs, hi, hq⟩ := e_HangString aFrom aCount aLength hok
  have q0 : z_String y.1 ≤ 1048576 := hq
  have r0 := bv_String y.1
  have e0 := c_w_eqString y.1 (by omega)
  have bm0 := c_w_markString y.1 (1) (by omega) (by omega) (by omega)
  have bh0 := c_w_heldString y.1 (1) (by omega) (by omega) (by omega)
  have bp0 : ((mv_String y.1 (1)).1, ((mv_String y.1 (1)).2.1, ((mv_String y.1 (1)).2.2.1, ((mv_String y.1 (1)).2.2.2.1, y.1.2.2.2.2)))) = mv_String y.1 (1) := rfl
  have bn0 : ilt (1 + (cv_String y.1 : Nat)) 0 = false := ilt_f (by omega)
  simp only [hs, hi, c_w_toVector, e0, bm0, bh0, bp0, bn0, opt_bind_some, cond_f, cond_t, bnot_t, ieq_self, beqB_self]
end Go.Fw
namespace Go.Proofs.Ytcbpdhhipkdofaa
open Go.ChangeShapes Go.WideShapes Go.ChangeAt Go.RowKit Go.Fw Go.Fw.A

theorem fnExactHangString_own : ownKnob Try.prog.godebug = none := by kernel_rfl

set_option maxRecDepth 100000 in
theorem fnExactHangString_lifted (os : Os) (started : os.Started) (H : Type) (enc : TypeId × Value → H) :
    ReturnsInHanded {} Try.checked os 14 .any (Rows.fnExactHangStringSpec.pre6 enc Try.prog Try.f14 Rows.fnExactHangStringRow.domain false) (Rows.fnExactHangStringSpec.post enc Try.prog Try.f14 false true false false) := by
  refine returnsInHanded_of_change (C := Try.checked) fnExactHangString_own started (by kernel_rfl) Try.func14
    (ChangeSpec.witness6 (enc := enc) (C := Try.checked) false ⟨#[], #[.agg #[.float .f32 0, .float .f32 0, .float .f32 0], .int .i64 0, .float .f32 0], []⟩ 8 (by kernel_rfl) (by kernel_rfl) (by kernel_rfl) (by kernel_rfl)) ?_
  intro W base args ds gs before hval hW _ _
  exact law_of (E := E_w_FnExactHangString) (ps := [.ro true tVec, .ro false (.int .i64), .ro false (.flt .f32)]) ek_w_FnExactHangString Try.func14 (by kernel_rfl) (.none (by kernel_rfl)) rfl
    (fun ds hl => by
      match ds, hl with
      | [d1, d2, d3], _ => rfl)
    (fun ⟨aFrom, aCount, aLength, ⟨⟩⟩ hok => (ev_w_FnExactHangString aFrom aCount aLength).trans (v_FnExactHangString aFrom aCount aLength hok)) hval hW

theorem fnExactHangString_holds : Rows.FnExactHangStringSaid :=
  OpenClaim.holds_of_wide 14 Try.f14 rfl rfl rfl rfl rfl rfl rfl ⟨rfl, rfl, rfl, rfl, rfl⟩ rfl rfl rfl rfl rfl (by kernel_rfl) Try.func14 (by kernel_rfl)
    (of_decide_eq_true (by kernel_rfl)) (by unfold Func.isWrapper; first | (rw [if_pos (by decide +kernel)]; kernel_rfl) | (rw [if_neg (by decide +kernel)]; exact ⟨rfl, rfl⟩))
    (fun os started H enc _ => fnExactHangString_lifted os started H enc)

#print axioms fnExactHangString_holds
end Go.Proofs.Ytcbpdhhipkdofaa
