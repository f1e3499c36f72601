/- The law FnExactValidRecording answers true for all arguments. No condition. -/
import Derived.Test.YtcbpdhhipkdofaaAEq3
import Derived.Test.YtcbpdhhipkdofaaASeat
import Derived.Test.YtcbpdhhipkdofaaRows
set_option linter.unusedVariables false
set_option linter.unusedSimpArgs false
namespace Go.Fw
theorem v_FnExactValidRecording (aR : dRec) (hok : okPs [.ro true tRec] (aR, ())) : g_w_FnExactValidRecording aR = some true := by
  unfold g_w_FnExactValidRecording
  have z0 := c_w_szRecording aR (1048576) hok.1 (by omega) (by omega)
  by_cases c0 : ((z_Rec aR : Nat) : Int) ≤ 1048576
  case neg => rw [if_neg c0] at z0; simp only [z0, opt_bind_some, show ilt (-1) 0 = true from rfl, cond_t]
  rw [if_pos c0] at z0
  rw [z0]
  simp (disch := omega) only [opt_bind_some, ilt_f, cond_f]
  have d0 : ((z_Rec aR : Nat) : Int) ≤ 1048576 := by omega
  obtain ⟨y, hs, hi, hq⟩ := e_ValidRecording aR d0 hok
  have s0 := bv_Rec aR
  have t0 := c_w_toRecording aR (by omega)
  have e0 := c_w_eqRecording aR (by omega)
  simp only [hs, hi, t0, e0, opt_bind_some, cond_f, cond_t, bnot_t, ieq_self, beqB_self]
end Go.Fw
namespace Go.Proofs.Ytcbpdhhipkdofaa
open Go.ChangeShapes Go.WideShapes Go.ChangeAt Go.RowKit Go.Fw Go.Fw.A

theorem fnExactValidRecording_own : ownKnob Try.prog.godebug = none := by kernel_rfl

set_option maxRecDepth 100000 in
theorem fnExactValidRecording_lifted (os : Os) (started : os.Started) (H : Type) (enc : TypeId × Value → H) :
    ReturnsInHanded {} Try.checked os 11 .any (Rows.fnExactValidRecordingSpec.pre6 enc Try.prog Try.f11 Rows.fnExactValidRecordingRow.domain false) (Rows.fnExactValidRecordingSpec.post enc Try.prog Try.f11 false true false false) := by
  refine returnsInHanded_of_change (C := Try.checked) fnExactValidRecording_own started (by kernel_rfl) Try.func11
    (ChangeSpec.witness6 (enc := enc) (C := Try.checked) false ⟨#[], #[.agg #[.int .i64 0, .slice none 0 0]], []⟩ 8 (by kernel_rfl) (by kernel_rfl) (by kernel_rfl) (by kernel_rfl)) ?_
  intro W base args ds gs before hval hW _ _
  exact law_of (E := E_w_FnExactValidRecording) (ps := [.ro true tRec]) ek_w_FnExactValidRecording Try.func11 (by kernel_rfl) (.none (by kernel_rfl)) rfl
    (fun ds hl => by
      match ds, hl with
      | [d1], _ => rfl)
    (fun ⟨aR, ⟨⟩⟩ hok => (ev_w_FnExactValidRecording aR).trans (v_FnExactValidRecording aR hok)) hval hW

theorem fnExactValidRecording_holds : Rows.FnExactValidRecordingSaid :=
  OpenClaim.holds_of_wide 11 Try.f11 rfl rfl rfl rfl rfl rfl rfl ⟨rfl, rfl, rfl, rfl, rfl⟩ rfl rfl rfl rfl rfl (by kernel_rfl) Try.func11 (by kernel_rfl)
    (of_decide_eq_true (by kernel_rfl)) (by unfold Func.isWrapper; first | (rw [if_pos (by decide +kernel)]; kernel_rfl) | (rw [if_neg (by decide +kernel)]; exact ⟨rfl, rfl⟩))
    (fun os started H enc _ => fnExactValidRecording_lifted os started H enc)

#print axioms fnExactValidRecording_holds
end Go.Proofs.Ytcbpdhhipkdofaa
