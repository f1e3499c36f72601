/- The law FnExactFarthestMove answers true for all arguments. No condition. -/
import Derived.Test.YtcbpdhhipkdofaaAEq2
import Derived.Test.YtcbpdhhipkdofaaASeat
import Derived.Test.YtcbpdhhipkdofaaRows
set_option linter.unusedVariables false
set_option linter.unusedSimpArgs false
namespace Go.Fw
theorem v_FnExactFarthestMove (aA : (List dVec)) (aB : (List dVec)) (hok : okPs [.ro false (.slice tVec), .ro false (.slice tVec)] (aA, aB, ())) : g_w_FnExactFarthestMove aA aB = some true := by
  unfold g_w_FnExactFarthestMove
  have z0 := c_w_szVectorS aA (1048576) hok.1 (by omega) (by omega)
  by_cases c0 : ((szL z_Vec aA : Nat) : Int) ≤ 1048576
  case neg => rw [if_neg c0] at z0; simp only [z0, opt_bind_some, show ilt (-1) 0 = true from rfl, cond_t]
  rw [if_pos c0] at z0
  rw [z0]
  simp (disch := omega) only [opt_bind_some, ilt_f, cond_f]
  have d0 : ((szL z_Vec aA : Nat) : Int) ≤ 1048576 := by omega
  have z1 := c_w_szVectorS aB (1048576 - (szL z_Vec aA : Nat)) hok.2.1 (by omega) (by omega)
  by_cases c1 : ((szL z_Vec aB : Nat) : Int) ≤ 1048576 - (szL z_Vec aA : Nat)
  case neg => rw [if_neg c1] at z1; simp only [z1, opt_bind_some, show ilt (-1) 0 = true from rfl, cond_t]
  rw [if_pos c1] at z1
  rw [z1]
  simp (disch := omega) only [opt_bind_some, ilt_f, cond_f]
  have d1 : ((szL z_Vec aB : Nat) : Int) ≤ 1048576 := by omega
  obtain ⟨y, hs, hi, hq⟩ := e_FarthestMove aA aB d0 d1 hok
  have s0 := sumL_le b1_Vec aA
  have s1 := sumL_le b1_Vec aB
  have t0 := c_w_toVectorS aA (by omega)
  have t1 := c_w_toVectorS aB (by omega)
  have e0 := c_w_eqVectorS aA (by omega)
  have e1 := c_w_eqVectorS aB (by omega)
  simp only [hs, hi, c_w_sameFloat, t0, t1, e0, e1, opt_bind_some, cond_f, cond_t, bnot_t, ieq_self, beqB_self]
end Go.Fw
namespace Go.Proofs.Ytcbpdhhipkdofaa
open Go.ChangeShapes Go.WideShapes Go.ChangeAt Go.RowKit Go.Fw Go.Fw.A

theorem fnExactFarthestMove_own : ownKnob Try.prog.godebug = none := by kernel_rfl

set_option maxRecDepth 100000 in
theorem fnExactFarthestMove_lifted (os : Os) (started : os.Started) (H : Type) (enc : TypeId × Value → H) :
    ReturnsInHanded {} Try.checked os 9 .any (Rows.fnExactFarthestMoveSpec.pre6 enc Try.prog Try.f9 Rows.fnExactFarthestMoveRow.domain false) (Rows.fnExactFarthestMoveSpec.post enc Try.prog Try.f9 false true false false) := by
  refine returnsInHanded_of_change (C := Try.checked) fnExactFarthestMove_own started (by kernel_rfl) Try.func9
    (ChangeSpec.witness6 (enc := enc) (C := Try.checked) false ⟨#[], #[.slice none 0 0, .slice none 0 0], []⟩ 8 (by kernel_rfl) (by kernel_rfl) (by kernel_rfl) (by kernel_rfl)) ?_
  intro W base args ds gs before hval hW _ _
  exact law_of (E := E_w_FnExactFarthestMove) (ps := [.ro false (.slice tVec), .ro false (.slice tVec)]) ek_w_FnExactFarthestMove Try.func9 (by kernel_rfl) (.none (by kernel_rfl)) rfl
    (fun ds hl => by
      match ds, hl with
      | [d1, d2], _ => rfl)
    (fun ⟨aA, aB, ⟨⟩⟩ hok => (ev_w_FnExactFarthestMove aA aB).trans (v_FnExactFarthestMove aA aB hok)) hval hW

theorem fnExactFarthestMove_holds : Rows.FnExactFarthestMoveSaid :=
  OpenClaim.holds_of_wide 9 Try.f9 rfl rfl rfl rfl rfl rfl rfl ⟨rfl, rfl, rfl, rfl, rfl⟩ rfl rfl rfl rfl rfl (by kernel_rfl) Try.func9 (by kernel_rfl)
    (of_decide_eq_true (by kernel_rfl)) (by unfold Func.isWrapper; first | (rw [if_pos (by decide +kernel)]; kernel_rfl) | (rw [if_neg (by decide +kernel)]; exact ⟨rfl, rfl⟩))
    (fun os started H enc _ => fnExactFarthestMove_lifted os started H enc)

#print axioms fnExactFarthestMove_holds
end Go.Proofs.Ytcbpdhhipkdofaa
