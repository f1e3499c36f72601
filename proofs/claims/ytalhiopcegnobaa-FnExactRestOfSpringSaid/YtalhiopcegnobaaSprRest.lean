/- The program's RestOfSpring answers as the reference's, for all springs, goals and numbers of steps. No condition. -/
import Derived.Test.YtalhiopcegnobaaSprI
import Derived.Test.YtalhiopcegnobaaRows
namespace Go.Proofs.Ytalhiopcegnobaa
open Go.ChangeShapes Go.WideShapes Go.ChangeAt Go.RowKit Go.Fw Go.Fw.Spr

theorem fnExactRestOfSpring_own : ownKnob Try.prog.godebug = none := by kernel_rfl

set_option maxRecDepth 100000 in
theorem fnExactRestOfSpring_lifted (os : Os) (started : os.Started) (H : Type) (enc : TypeId × Value → H) :
    ReturnsInHanded {} Try.checked os 6 .any (Rows.fnExactRestOfSpringSpec.pre6 enc Try.prog Try.f6 Rows.fnExactRestOfSpringRow.domain false) (Rows.fnExactRestOfSpringSpec.post enc Try.prog Try.f6 false true false false) := by
  refine returnsInHanded_of_change (C := Try.checked) fnExactRestOfSpring_own started (by kernel_rfl) Try.func6
    (ChangeSpec.witness6 (enc := enc) (C := Try.checked) false ⟨#[], #[.agg #[.float .f32 0, .float .f32 0, .float .f32 0, .float .f32 0], .float .f32 0, .int .i64 0], []⟩ 8 (by kernel_rfl) (by kernel_rfl) (by kernel_rfl) (by kernel_rfl)) ?_
  intro W base args ds gs before hval hW _ _
  exact law_of (E := env envJ) (ps := psI) allJ.env Try.func6 (by kernel_rfl) (.none (by kernel_rfl)) rfl
    (fun ds hl => by
      match ds, hl with
      | [d1, d2, d3], _ => rfl)
    (fun ⟨a, b, c, ⟨⟩⟩ _ => eval6 a b c) hval hW

theorem fnExactRestOfSpring_holds : Rows.FnExactRestOfSpringSaid :=
  OpenClaim.holds_of_wide 6 Try.f6 rfl rfl rfl rfl rfl rfl rfl ⟨rfl, rfl, rfl, rfl, rfl⟩ rfl rfl rfl rfl rfl (by kernel_rfl) Try.func6 (by kernel_rfl)
    (of_decide_eq_true (by kernel_rfl)) (by unfold Func.isWrapper; first | (rw [if_pos (by decide +kernel)]; kernel_rfl) | (rw [if_neg (by decide +kernel)]; exact ⟨rfl, rfl⟩))
    (fun os started H enc _ => fnExactRestOfSpring_lifted os started H enc)

#print axioms fnExactRestOfSpring_holds
end Go.Proofs.Ytalhiopcegnobaa
