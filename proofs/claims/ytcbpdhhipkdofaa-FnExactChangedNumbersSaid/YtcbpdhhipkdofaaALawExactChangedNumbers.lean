/- The law FnExactChangedNumbers answers true for all arguments. No condition. -/
import Derived.Test.YtcbpdhhipkdofaaAEq3
import Derived.Test.YtcbpdhhipkdofaaASeat
import Derived.Test.YtcbpdhhipkdofaaRows
set_option linter.unusedVariables false
set_option linter.unusedSimpArgs false
namespace Go.Fw
theorem v_FnExactChangedNumbers (aA : dPose) (aB : dPose) (hok : okPs [.ro true tPose, .ro true tPose] (aA, aB, ())) : g_w_FnExactChangedNumbers aA aB = some true := by
  unfold g_w_FnExactChangedNumbers
  have z0 := c_w_szPose aA (1048576) hok.1 (by omega) (by omega)
  by_cases c0 : ((z_Pose aA : Nat) : Int) ≤ 1048576
  case neg => rw [if_neg c0] at z0; simp only [z0, opt_bind_some, show ilt (-1) 0 = true from rfl, cond_t]
  rw [if_pos c0] at z0
  rw [z0]
  simp (disch := omega) only [opt_bind_some, ilt_f, cond_f]
  have d0 : ((z_Pose aA : Nat) : Int) ≤ 1048576 := by omega
  have z1 := c_w_szPose aB (1048576 - (z_Pose aA : Nat)) hok.2.1 (by omega) (by omega)
  by_cases c1 : ((z_Pose aB : Nat) : Int) ≤ 1048576 - (z_Pose aA : Nat)
  case neg => rw [if_neg c1] at z1; simp only [z1, opt_bind_some, show ilt (-1) 0 = true from rfl, cond_t]
  rw [if_pos c1] at z1
  rw [z1]
  simp (disch := omega) only [opt_bind_some, ilt_f, cond_f]
  have d1 : ((z_Pose aB : Nat) : Int) ≤ 1048576 := by omega
  obtain ⟨y, hs, hi, hq⟩ := e_ChangedNumbers aA aB d0 d1 hok
  have q0 : szL z_I64 y.1 ≤ 1048576 := hq
  have r0 := sumL_le b1_I64 y.1
  have s0 := bv_Pose aA
  have s1 := bv_Pose aB
  have t0 := c_w_toPose aA (by omega)
  have t1 := c_w_toPose aB (by omega)
  have e0 := c_w_eqPose aA (by omega)
  have e1 := c_w_eqPose aB (by omega)
  have e2 := c_w_eqInt64S y.1 (by omega)
  have am0 := c_w_markPose aA (1) (by omega) (by omega) (by omega)
  have ap0 : (aA.1, (mv_Pose aA (1)).2) = mv_Pose aA (1) := rfl
  have an0 : ilt (1 + (cv_Pose aA : Nat)) 0 = false := ilt_f (by omega)
  have am1 := c_w_markPose aB (1 + (cv_Pose aA : Nat)) (by omega) (by omega) (by omega)
  have ap1 : (aB.1, (mv_Pose aB (1 + (cv_Pose aA : Nat))).2) = mv_Pose aB (1 + (cv_Pose aA : Nat)) := rfl
  have an1 : ilt (1 + (cv_Pose aA : Nat) + (cv_Pose aB : Nat)) 0 = false := ilt_f (by omega)
  have bm0 := c_w_markInt64S y.1 (1) (by omega) (by omega) (by omega)
  have bh0 := c_w_heldInt64S y.1 (1) (by omega) (by omega) (by omega)
  have bn0 : ilt (1 + (sumL c_I64 y.1 : Nat)) 0 = false := ilt_f (by omega)
  simp only [hs, hi, t0, t1, e0, e1, e2, am0, ap0, an0, am1, ap1, an1, bm0, bh0, bn0, opt_bind_some, cond_f, cond_t, bnot_t, ieq_self, beqB_self]
end Go.Fw
namespace Go.Proofs.Ytcbpdhhipkdofaa
open Go.ChangeShapes Go.WideShapes Go.ChangeAt Go.RowKit Go.Fw Go.Fw.A

theorem fnExactChangedNumbers_own : ownKnob Try.prog.godebug = none := by kernel_rfl

set_option maxRecDepth 100000 in
theorem fnExactChangedNumbers_lifted (os : Os) (started : os.Started) (H : Type) (enc : TypeId × Value → H) :
    ReturnsInHanded {} Try.checked os 12 .any (Rows.fnExactChangedNumbersSpec.pre6 enc Try.prog Try.f12 Rows.fnExactChangedNumbersRow.domain false) (Rows.fnExactChangedNumbersSpec.post enc Try.prog Try.f12 false true false false) := by
  refine returnsInHanded_of_change (C := Try.checked) fnExactChangedNumbers_own started (by kernel_rfl) Try.func12
    (ChangeSpec.witness6 (enc := enc) (C := Try.checked) false ⟨#[], #[.agg #[.float .f32 0, .float .f32 0, .float .f32 0, .slice none 0 0], .agg #[.float .f32 0, .float .f32 0, .float .f32 0, .slice none 0 0]], []⟩ 8 (by kernel_rfl) (by kernel_rfl) (by kernel_rfl) (by kernel_rfl)) ?_
  intro W base args ds gs before hval hW _ _
  exact law_of (E := E_w_FnExactChangedNumbers) (ps := [.ro true tPose, .ro true tPose]) ek_w_FnExactChangedNumbers Try.func12 (by kernel_rfl) (.none (by kernel_rfl)) rfl
    (fun ds hl => by
      match ds, hl with
      | [d1, d2], _ => rfl)
    (fun ⟨aA, aB, ⟨⟩⟩ hok => (ev_w_FnExactChangedNumbers aA aB).trans (v_FnExactChangedNumbers aA aB hok)) hval hW

theorem fnExactChangedNumbers_holds : Rows.FnExactChangedNumbersSaid :=
  OpenClaim.holds_of_wide 12 Try.f12 rfl rfl rfl rfl rfl rfl rfl ⟨rfl, rfl, rfl, rfl, rfl⟩ rfl rfl rfl rfl rfl (by kernel_rfl) Try.func12 (by kernel_rfl)
    (of_decide_eq_true (by kernel_rfl)) (by unfold Func.isWrapper; first | (rw [if_pos (by decide +kernel)]; kernel_rfl) | (rw [if_neg (by decide +kernel)]; exact ⟨rfl, rfl⟩))
    (fun os started H enc _ => fnExactChangedNumbers_lifted os started H enc)

#print axioms fnExactChangedNumbers_holds
end Go.Proofs.Ytcbpdhhipkdofaa
