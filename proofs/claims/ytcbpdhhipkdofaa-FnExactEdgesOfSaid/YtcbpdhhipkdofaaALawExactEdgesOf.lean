/- The law FnExactEdgesOf answers true for all arguments. No condition. -/
import Derived.Test.YtcbpdhhipkdofaaAEq3
import Derived.Test.YtcbpdhhipkdofaaASeat
import Derived.Test.YtcbpdhhipkdofaaRows
set_option linter.unusedVariables false
set_option linter.unusedSimpArgs false
namespace Go.Fw
theorem v_FnExactEdgesOf (aPlaces : (List dVec)) (aPairs : (List (List Int))) (hok : okPs [.ro false (.slice tVec), .ro false (.slice (.slice (.int .i64)))] (aPlaces, aPairs, ())) : g_w_FnExactEdgesOf aPlaces aPairs = some true := by
  unfold g_w_FnExactEdgesOf
  have z0 := c_w_szVectorS aPlaces (1048576) hok.1 (by omega) (by omega)
  by_cases c0 : ((szL z_Vec aPlaces : Nat) : Int) ≤ 1048576
  case neg => rw [if_neg c0] at z0; simp only [z0, opt_bind_some, show ilt (-1) 0 = true from rfl, cond_t]
  rw [if_pos c0] at z0
  rw [z0]
  simp (disch := omega) only [opt_bind_some, ilt_f, cond_f]
  have d0 : ((szL z_Vec aPlaces : Nat) : Int) ≤ 1048576 := by omega
  have z1 := c_w_szInt64SS aPairs (1048576 - (szL z_Vec aPlaces : Nat)) hok.2.1 (by omega) (by omega)
  by_cases c1 : ((szL z_I64S aPairs : Nat) : Int) ≤ 1048576 - (szL z_Vec aPlaces : Nat)
  case neg => rw [if_neg c1] at z1; simp only [z1, opt_bind_some, show ilt (-1) 0 = true from rfl, cond_t]
  rw [if_pos c1] at z1
  rw [z1]
  simp (disch := omega) only [opt_bind_some, ilt_f, cond_f]
  have d1 : ((szL z_I64S aPairs : Nat) : Int) ≤ 1048576 := by omega
  obtain ⟨y, hs, hi, hq⟩ := e_EdgesOf aPlaces aPairs d0 d1 hok
  have q0 : szL z_F32 y.1 ≤ 1048576 := hq
  have r0 := sumL_le b1_F32 y.1
  have s0 := sumL_le b1_Vec aPlaces
  have s1 := sumL_le b1_I64S aPairs
  have t0 := c_w_toVectorS aPlaces (by omega)
  have t1 := c_w_toInt64SS aPairs (by omega)
  have e0 := c_w_eqVectorS aPlaces (by omega)
  have e1 := c_w_eqInt64SS aPairs (by omega)
  have e2 := c_w_eqFloat32S y.1 (by omega)
  have am0 := c_w_markVectorS aPlaces (1) (by omega) (by omega) (by omega)
  have an0 : ilt (1 + (sumL c_Vec aPlaces : Nat)) 0 = false := ilt_f (by omega)
  have am1 := c_w_markInt64SS aPairs (1 + (sumL c_Vec aPlaces : Nat)) (by omega) (by omega) (by omega)
  have an1 : ilt (1 + (sumL c_Vec aPlaces : Nat) + (sumL c_I64S aPairs : Nat)) 0 = false := ilt_f (by omega)
  have bm0 := c_w_markFloat32S y.1 (1) (by omega) (by omega) (by omega)
  have bh0 := c_w_heldFloat32S y.1 (1) (by omega) (by omega) (by omega)
  have bn0 : ilt (1 + (sumL c_F32 y.1 : Nat)) 0 = false := ilt_f (by omega)
  simp only [hs, hi, t0, t1, e0, e1, e2, am0, an0, am1, an1, bm0, bh0, bn0, opt_bind_some, cond_f, cond_t, bnot_t, ieq_self, beqB_self]
end Go.Fw
namespace Go.Proofs.Ytcbpdhhipkdofaa
open Go.ChangeShapes Go.WideShapes Go.ChangeAt Go.RowKit Go.Fw Go.Fw.A

theorem fnExactEdgesOf_own : ownKnob Try.prog.godebug = none := by kernel_rfl

set_option maxRecDepth 100000 in
theorem fnExactEdgesOf_lifted (os : Os) (started : os.Started) (H : Type) (enc : TypeId × Value → H) :
    ReturnsInHanded {} Try.checked os 13 .any (Rows.fnExactEdgesOfSpec.pre6 enc Try.prog Try.f13 Rows.fnExactEdgesOfRow.domain false) (Rows.fnExactEdgesOfSpec.post enc Try.prog Try.f13 false true false false) := by
  refine returnsInHanded_of_change (C := Try.checked) fnExactEdgesOf_own started (by kernel_rfl) Try.func13
    (ChangeSpec.witness6 (enc := enc) (C := Try.checked) false ⟨#[], #[.slice none 0 0, .slice none 0 0], []⟩ 8 (by kernel_rfl) (by kernel_rfl) (by kernel_rfl) (by kernel_rfl)) ?_
  intro W base args ds gs before hval hW _ _
  exact law_of (E := E_w_FnExactEdgesOf) (ps := [.ro false (.slice tVec), .ro false (.slice (.slice (.int .i64)))]) ek_w_FnExactEdgesOf Try.func13 (by kernel_rfl) (.none (by kernel_rfl)) rfl
    (fun ds hl => by
      match ds, hl with
      | [d1, d2], _ => rfl)
    (fun ⟨aPlaces, aPairs, ⟨⟩⟩ hok => (ev_w_FnExactEdgesOf aPlaces aPairs).trans (v_FnExactEdgesOf aPlaces aPairs hok)) hval hW

theorem fnExactEdgesOf_holds : Rows.FnExactEdgesOfSaid :=
  OpenClaim.holds_of_wide 13 Try.f13 rfl rfl rfl rfl rfl rfl rfl ⟨rfl, rfl, rfl, rfl, rfl⟩ rfl rfl rfl rfl rfl (by kernel_rfl) Try.func13 (by kernel_rfl)
    (of_decide_eq_true (by kernel_rfl)) (by unfold Func.isWrapper; first | (rw [if_pos (by decide +kernel)]; kernel_rfl) | (rw [if_neg (by decide +kernel)]; exact ⟨rfl, rfl⟩))
    (fun os started H enc _ => fnExactEdgesOf_lifted os started H enc)

#print axioms fnExactEdgesOf_holds
end Go.Proofs.Ytcbpdhhipkdofaa
