/- The law FnExactBlendClips answers true for all arguments. No condition. -/
import Derived.Test.YtobcfldhacdpiaaGreatZEq6
import Derived.Test.YtobcfldhacdpiaaGreatZSeat
import Derived.Test.YtobcfldhacdpiaaGreatRows
set_option linter.unusedVariables false
set_option linter.unusedSimpArgs false
namespace Go.Fw
theorem v_FnExactBlendClips (aClips : (List dClip)) (aPoints : (List Nat)) (aX : Nat) (aAt : Int) (hok : okPs [.ro false (.slice tClip), .ro false (.slice (.flt .f32)), .ro false (.flt .f32), .ro false (.int .i64)] (aClips, aPoints, aX, aAt, ())) : g_w_FnExactBlendClips aClips aPoints aX aAt = some true := by
  unfold g_w_FnExactBlendClips
  have hz1 : szL z_F32 aPoints = aPoints.length := szL_zero aPoints
  by_cases c1 : (1048576 : Int) < aPoints.length
  · rw [ilt_t c1]; rfl
  have d1 : (szL z_F32 aPoints : Int) ≤ 1048576 := by omega
  rw [ilt_f (by omega), cond_f]
  have z0 := c_w_szClipS aClips (1048576) hok.1 (by omega) (by omega)
  by_cases c0 : ((szL z_Clip aClips : Nat) : Int) ≤ 1048576
  case neg => rw [if_neg c0] at z0; simp only [z0, opt_bind_some, show ilt (-1) 0 = true from rfl, cond_t]
  rw [if_pos c0] at z0
  rw [z0]
  simp (disch := omega) only [opt_bind_some, ilt_f, cond_f]
  have d0 : ((szL z_Clip aClips : Nat) : Int) ≤ 1048576 := by omega
  obtain ⟨y, hs, hi, hq⟩ := e_BlendClips aClips aPoints aX aAt d0 d1 hok
  have q0 : z_Pose y.1 ≤ 1048576 := hq
  have r0 := bv_Pose y.1
  have s0 := sumL_le b1_Clip aClips
  have s1 := sumL_le b1_F32 aPoints
  have t0 := c_w_toClipS aClips (by omega)
  have t1 := c_w_toFloat32S aPoints (by omega)
  have e0 := c_w_eqClipS aClips (by omega)
  have e1 := c_w_eqFloat32S aPoints (by omega)
  have e2 := c_w_eqPose y.1 (by omega)
  have am0 := c_w_markClipS aClips (1) (by omega) (by omega) (by omega)
  have an0 : ilt (1 + (sumL c_Clip aClips : Nat)) 0 = false := ilt_f (by omega)
  have am1 := c_w_markFloat32S aPoints (1 + (sumL c_Clip aClips : Nat)) (by omega) (by omega) (by omega)
  have an1 : ilt (1 + (sumL c_Clip aClips : Nat) + (sumL c_F32 aPoints : Nat)) 0 = false := ilt_f (by omega)
  have bm0 := c_w_markPose y.1 (1) (by omega) (by omega) (by omega)
  have bh0 := c_w_heldPose y.1 (1) (by omega) (by omega) (by omega)
  have bp0 : (y.1.1, (mv_Pose y.1 (1)).2) = mv_Pose y.1 (1) := rfl
  have bn0 : ilt (1 + (cv_Pose y.1 : Nat)) 0 = false := ilt_f (by omega)
  simp only [hs, hi, t0, t1, e0, e1, e2, am0, an0, am1, an1, bm0, bh0, bp0, bn0, opt_bind_some, cond_f, cond_t, bnot_t, ieq_self, beqB_self]
end Go.Fw
namespace Go.Proofs.YtobcfldhacdpiaaGreat
open Go.ChangeShapes Go.WideShapes Go.ChangeAt Go.RowKit Go.Fw Go.Fw.Z

theorem fnExactBlendClips_own : ownKnob Tryz.prog.godebug = none := by kernel_rfl

set_option maxRecDepth 100000 in
theorem fnExactBlendClips_lifted (os : Os) (started : os.Started) (H : Type) (enc : TypeId × Value → H) :
    ReturnsInHanded {} Tryz.checked os 4 .any (Rows.fnExactBlendClipsSpec.pre6 enc Tryz.prog Tryz.f4 Rows.fnExactBlendClipsRow.domain false) (Rows.fnExactBlendClipsSpec.post enc Tryz.prog Tryz.f4 false true false false) := by
  refine returnsInHanded_of_change (C := Tryz.checked) fnExactBlendClips_own started (by kernel_rfl) Tryz.func4
    (ChangeSpec.witness6 (enc := enc) (C := Tryz.checked) false ⟨#[], #[.slice none 0 0, .slice none 0 0, .float .f32 0, .int .i64 0], []⟩ 8 (by kernel_rfl) (by kernel_rfl) (by kernel_rfl) (by kernel_rfl)) ?_
  intro W base args ds gs before hval hW _ _
  exact law_of (E := E_w_FnExactBlendClips) (ps := [.ro false (.slice tClip), .ro false (.slice (.flt .f32)), .ro false (.flt .f32), .ro false (.int .i64)]) ek_w_FnExactBlendClips Tryz.func4 (by kernel_rfl) (.none (by kernel_rfl)) rfl
    (fun ds hl => by
      match ds, hl with
      | [d1, d2, d3, d4], _ => rfl)
    (fun ⟨aClips, aPoints, aX, aAt, ⟨⟩⟩ hok => (ev_w_FnExactBlendClips aClips aPoints aX aAt).trans (v_FnExactBlendClips aClips aPoints aX aAt hok)) hval hW

theorem fnExactBlendClips_holds : Rows.FnExactBlendClipsSaid :=
  OpenClaim.holds_of_wide 4 Tryz.f4 rfl rfl rfl rfl rfl rfl rfl ⟨rfl, rfl, rfl, rfl, rfl⟩ rfl rfl rfl rfl rfl (by kernel_rfl) Tryz.func4 (by kernel_rfl)
    (of_decide_eq_true (by kernel_rfl)) (by unfold Func.isWrapper; first | (rw [if_pos (by decide +kernel)]; kernel_rfl) | (rw [if_neg (by decide +kernel)]; exact ⟨rfl, rfl⟩))
    (fun os started H enc _ => fnExactBlendClips_lifted os started H enc)

#print axioms fnExactBlendClips_holds
end Go.Proofs.YtobcfldhacdpiaaGreat
