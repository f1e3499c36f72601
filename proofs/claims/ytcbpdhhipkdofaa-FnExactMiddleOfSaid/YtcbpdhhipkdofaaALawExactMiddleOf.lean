/- The law FnExactMiddleOf answers true for all arguments. No condition. -/
import Derived.Test.YtcbpdhhipkdofaaAEq1
import Derived.Test.YtcbpdhhipkdofaaASeat
import Derived.Test.YtcbpdhhipkdofaaRows
set_option linter.unusedVariables false
set_option linter.unusedSimpArgs false
namespace Go.Fw
theorem v_FnExactMiddleOf (aPlaces : (List dVec)) (hok : okPs [.ro false (.slice tVec)] (aPlaces, ())) : g_w_FnExactMiddleOf aPlaces = some true := by
  unfold g_w_FnExactMiddleOf
  have z0 := c_w_szVectorS aPlaces (1048576) hok.1 (by omega) (by omega)
  by_cases c0 : ((szL z_Vec aPlaces : Nat) : Int) ≤ 1048576
  case neg => rw [if_neg c0] at z0; simp only [z0, opt_bind_some, show ilt (-1) 0 = true from rfl, cond_t]
  rw [if_pos c0] at z0
  rw [z0]
  simp (disch := omega) only [opt_bind_some, ilt_f, cond_f]
  have d0 : ((szL z_Vec aPlaces : Nat) : Int) ≤ 1048576 := by omega
  obtain ⟨y, hs, hi, hq⟩ := e_MiddleOf aPlaces d0 hok
  have s0 := sumL_le b1_Vec aPlaces
  have t0 := c_w_toVectorS aPlaces (by omega)
  have e0 := c_w_eqVectorS aPlaces (by omega)
  simp only [hs, hi, c_w_eqVector, t0, e0, opt_bind_some, cond_f, cond_t, bnot_t, ieq_self, beqB_self]
end Go.Fw
namespace Go.Proofs.Ytcbpdhhipkdofaa
open Go.ChangeShapes Go.WideShapes Go.ChangeAt Go.RowKit Go.Fw Go.Fw.A

theorem fnExactMiddleOf_own : ownKnob Try.prog.godebug = none := by kernel_rfl

set_option maxRecDepth 100000 in
theorem fnExactMiddleOf_lifted (os : Os) (started : os.Started) (H : Type) (enc : TypeId × Value → H) :
    ReturnsInHanded {} Try.checked os 4 .any (Rows.fnExactMiddleOfSpec.pre6 enc Try.prog Try.f4 Rows.fnExactMiddleOfRow.domain false) (Rows.fnExactMiddleOfSpec.post enc Try.prog Try.f4 false true false false) := by
  refine returnsInHanded_of_change (C := Try.checked) fnExactMiddleOf_own started (by kernel_rfl) Try.func4
    (ChangeSpec.witness6 (enc := enc) (C := Try.checked) false ⟨#[], #[.slice none 0 0], []⟩ 8 (by kernel_rfl) (by kernel_rfl) (by kernel_rfl) (by kernel_rfl)) ?_
  intro W base args ds gs before hval hW _ _
  exact law_of (E := E_w_FnExactMiddleOf) (ps := [.ro false (.slice tVec)]) ek_w_FnExactMiddleOf Try.func4 (by kernel_rfl) (.none (by kernel_rfl)) rfl
    (fun ds hl => by
      match ds, hl with
      | [d1], _ => rfl)
    (fun ⟨aPlaces, ⟨⟩⟩ hok => (ev_w_FnExactMiddleOf aPlaces).trans (v_FnExactMiddleOf aPlaces hok)) hval hW

theorem fnExactMiddleOf_holds : Rows.FnExactMiddleOfSaid :=
  OpenClaim.holds_of_wide 4 Try.f4 rfl rfl rfl rfl rfl rfl rfl ⟨rfl, rfl, rfl, rfl, rfl⟩ rfl rfl rfl rfl rfl (by kernel_rfl) Try.func4 (by kernel_rfl)
    (of_decide_eq_true (by kernel_rfl)) (by unfold Func.isWrapper; first | (rw [if_pos (by decide +kernel)]; kernel_rfl) | (rw [if_neg (by decide +kernel)]; exact ⟨rfl, rfl⟩))
    (fun os started H enc _ => fnExactMiddleOf_lifted os started H enc)

#print axioms fnExactMiddleOf_holds
end Go.Proofs.Ytcbpdhhipkdofaa
