/- The law FnExactSameRecording answers true for all arguments. No condition. -/
import Derived.Test.YtijmellgdjcofaaBEq1
import Derived.Test.YtijmellgdjcofaaBSeat
import Derived.Test.YtijmellgdjcofaaRows
set_option linter.unusedVariables false
set_option linter.unusedSimpArgs false
namespace Go.Fw
theorem v_FnExactSameRecording (aA : dRec) (aB : dRec) (hok : okPs [.ro true tRec, .ro true tRec] (aA, aB, ())) : g_w_FnExactSameRecording aA aB = some true := by
  unfold g_w_FnExactSameRecording
  have z0 := c_w_szRecording aA (1048576) hok.1 (by omega) (by omega)
  by_cases c0 : ((z_Rec aA : Nat) : Int) ≤ 1048576
  case neg => rw [if_neg c0] at z0; simp only [z0, opt_bind_some, show ilt (-1) 0 = true from rfl, cond_t]
  rw [if_pos c0] at z0
  rw [z0]
  simp (disch := omega) only [opt_bind_some, ilt_f, cond_f]
  have d0 : ((z_Rec aA : Nat) : Int) ≤ 1048576 := by omega
  have z1 := c_w_szRecording aB (1048576 - (z_Rec aA : Nat)) hok.2.1 (by omega) (by omega)
  by_cases c1 : ((z_Rec aB : Nat) : Int) ≤ 1048576 - (z_Rec aA : Nat)
  case neg => rw [if_neg c1] at z1; simp only [z1, opt_bind_some, show ilt (-1) 0 = true from rfl, cond_t]
  rw [if_pos c1] at z1
  rw [z1]
  simp (disch := omega) only [opt_bind_some, ilt_f, cond_f]
  have d1 : ((z_Rec aB : Nat) : Int) ≤ 1048576 := by omega
  obtain ⟨y, hs, hi, hq⟩ := e_SameRecording aA aB d0 d1 hok
  have s0 := bv_Rec aA
  have s1 := bv_Rec aB
  have t0 := c_w_toRecording aA (by omega)
  have t1 := c_w_toRecording aB (by omega)
  have e0 := c_w_eqRecording aA (by omega)
  have e1 := c_w_eqRecording aB (by omega)
  simp only [hs, hi, t0, t1, e0, e1, opt_bind_some, cond_f, cond_t, bnot_t, ieq_self, beqB_self]
end Go.Fw
namespace Go.Proofs.Ytijmellgdjcofaa
open Go.ChangeShapes Go.WideShapes Go.ChangeAt Go.RowKit Go.Fw Go.Fw.B

theorem fnExactSameRecording_own : ownKnob Try.prog.godebug = none := by kernel_rfl

set_option maxRecDepth 100000 in
theorem fnExactSameRecording_lifted (os : Os) (started : os.Started) (H : Type) (enc : TypeId × Value → H) :
    ReturnsInHanded {} Try.checked os 3 .any (Rows.fnExactSameRecordingSpec.pre6 enc Try.prog Try.f3 Rows.fnExactSameRecordingRow.domain false) (Rows.fnExactSameRecordingSpec.post enc Try.prog Try.f3 false true false false) := by
  refine returnsInHanded_of_change (C := Try.checked) fnExactSameRecording_own started (by kernel_rfl) Try.func3
    (ChangeSpec.witness6 (enc := enc) (C := Try.checked) false ⟨#[], #[.agg #[.int .i64 0, .slice none 0 0], .agg #[.int .i64 0, .slice none 0 0]], []⟩ 8 (by kernel_rfl) (by kernel_rfl) (by kernel_rfl) (by kernel_rfl)) ?_
  intro W base args ds gs before hval hW _ _
  exact law_of (E := E_w_FnExactSameRecording) (ps := [.ro true tRec, .ro true tRec]) ek_w_FnExactSameRecording Try.func3 (by kernel_rfl) (.none (by kernel_rfl)) rfl
    (fun ds hl => by
      match ds, hl with
      | [d1, d2], _ => rfl)
    (fun ⟨aA, aB, ⟨⟩⟩ hok => (ev_w_FnExactSameRecording aA aB).trans (v_FnExactSameRecording aA aB hok)) hval hW

theorem fnExactSameRecording_holds : Rows.FnExactSameRecordingSaid :=
  OpenClaim.holds_of_wide 3 Try.f3 rfl rfl rfl rfl rfl rfl rfl ⟨rfl, rfl, rfl, rfl, rfl⟩ rfl rfl rfl rfl rfl (by kernel_rfl) Try.func3 (by kernel_rfl)
    (of_decide_eq_true (by kernel_rfl)) (by unfold Func.isWrapper; first | (rw [if_pos (by decide +kernel)]; kernel_rfl) | (rw [if_neg (by decide +kernel)]; exact ⟨rfl, rfl⟩))
    (fun os started H enc _ => fnExactSameRecording_lifted os started H enc)

#print axioms fnExactSameRecording_holds
end Go.Proofs.Ytijmellgdjcofaa
