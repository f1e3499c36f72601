/- The law FnExactStretchOf answers true for all arguments. No condition. -/
import Derived.Test.YtijmellgdjcofaaBEq3
import Derived.Test.YtijmellgdjcofaaBSeat
import Derived.Test.YtijmellgdjcofaaRows
set_option linter.unusedVariables false
set_option linter.unusedSimpArgs false
namespace Go.Fw
theorem v_FnExactStretchOf (aS : dString) (hok : okPs [.ro true tString] (aS, ())) : g_w_FnExactStretchOf aS = some true := by
  unfold g_w_FnExactStretchOf
  have z0 := c_w_szString aS (1048576) hok.1 (by omega) (by omega)
  by_cases c0 : ((z_String aS : Nat) : Int) ≤ 1048576
  case neg => rw [if_neg c0] at z0; simp only [z0, opt_bind_some, show ilt (-1) 0 = true from rfl, cond_t]
  rw [if_pos c0] at z0
  rw [z0]
  simp (disch := omega) only [opt_bind_some, ilt_f, cond_f]
  have d0 : ((z_String aS : Nat) : Int) ≤ 1048576 := by omega
  obtain ⟨y, hs, hi, hq⟩ := e_StretchOf aS d0 hok
  have s0 := bv_String aS
  have t0 := c_w_toString aS (by omega)
  have e0 := c_w_eqString aS (by omega)
  simp only [hs, hi, c_w_sameFloat, t0, e0, opt_bind_some, cond_f, cond_t, bnot_t, ieq_self, beqB_self]
end Go.Fw
namespace Go.Proofs.Ytijmellgdjcofaa
open Go.ChangeShapes Go.WideShapes Go.ChangeAt Go.RowKit Go.Fw Go.Fw.B

theorem fnExactStretchOf_own : ownKnob Try.prog.godebug = none := by kernel_rfl

set_option maxRecDepth 100000 in
theorem fnExactStretchOf_lifted (os : Os) (started : os.Started) (H : Type) (enc : TypeId × Value → H) :
    ReturnsInHanded {} Try.checked os 7 .any (Rows.fnExactStretchOfSpec.pre6 enc Try.prog Try.f7 Rows.fnExactStretchOfRow.domain false) (Rows.fnExactStretchOfSpec.post enc Try.prog Try.f7 false true false false) := by
  refine returnsInHanded_of_change (C := Try.checked) fnExactStretchOf_own started (by kernel_rfl) Try.func7
    (ChangeSpec.witness6 (enc := enc) (C := Try.checked) false ⟨#[], #[.agg #[.slice none 0 0, .slice none 0 0, .slice none 0 0, .slice none 0 0, .float .f32 0, .float .f32 0, .float .f32 0, .float .f32 0, .int .i64 0]], []⟩ 8 (by kernel_rfl) (by kernel_rfl) (by kernel_rfl) (by kernel_rfl)) ?_
  intro W base args ds gs before hval hW _ _
  exact law_of (E := E_w_FnExactStretchOf) (ps := [.ro true tString]) ek_w_FnExactStretchOf Try.func7 (by kernel_rfl) (.none (by kernel_rfl)) rfl
    (fun ds hl => by
      match ds, hl with
      | [d1], _ => rfl)
    (fun ⟨aS, ⟨⟩⟩ hok => (ev_w_FnExactStretchOf aS).trans (v_FnExactStretchOf aS hok)) hval hW

theorem fnExactStretchOf_holds : Rows.FnExactStretchOfSaid :=
  OpenClaim.holds_of_wide 7 Try.f7 rfl rfl rfl rfl rfl rfl rfl ⟨rfl, rfl, rfl, rfl, rfl⟩ rfl rfl rfl rfl rfl (by kernel_rfl) Try.func7 (by kernel_rfl)
    (of_decide_eq_true (by kernel_rfl)) (by unfold Func.isWrapper; first | (rw [if_pos (by decide +kernel)]; kernel_rfl) | (rw [if_neg (by decide +kernel)]; exact ⟨rfl, rfl⟩))
    (fun os started H enc _ => fnExactStretchOf_lifted os started H enc)

#print axioms fnExactStretchOf_holds
end Go.Proofs.Ytijmellgdjcofaa
