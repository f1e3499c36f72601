/- FnRotations: a turn of nearly the length 1 keeps lengths. No condition. -/
import Derived.Test.YthmpjkfccbchfaaFEq7
set_option linter.unusedVariables false
set_option linter.unusedSimpArgs false
namespace Go.Fw

section
variable (w x y z a b c d e f : Rat)
end

theorem near_err' {x a e : Rat} (h : Near x a e) : ∃ g, x = a + g ∧ In g e := ⟨x - a, by grind, by have := h.1; grind, by have := h.2; grind⟩

/-- A turned vector: the turned one, and a rest. -/
theorem rot_parts {t : dTurn} {v : dVec} {V A : Rat} (ht : finT t) (hv : finV v) (i1 : In (R1 t.1) (1000001 / 1000000)) (i2 : In (R1 t.2.1) (1000001 / 1000000)) (i3 : In (R1 t.2.2.1) (1000001 / 1000000)) (i4 : In (R1 t.2.2.2.1) (1000001 / 1000000))
    {S : Rat} (hS : R1 t.1 * R1 t.1 + R1 t.2.1 * R1 t.2.1 + R1 t.2.2.1 * R1 t.2.2.1 + R1 t.2.2.2.1 * R1 t.2.2.2.1 = S) (hS1 : Near S 1 (1 / 1600000))
    (v1 : In (R1 v.1) V) (v2 : In (R1 v.2.1) V) (v3 : In (R1 v.2.2.1) V) (hV1 : 1 / 1000000000 ≤ V) (hV2 : V ≤ 100000) (hA : NB (R1 v.1) (R1 v.2.1) (R1 v.2.2.1) A) :
    finV (t_i_RotateBy t v) ∧ ∃ g1 g2 g3, R1 (t_i_RotateBy t v).1 = px (R1 t.1) (R1 t.2.1) (R1 t.2.2.1) (R1 t.2.2.2.1) (R1 v.1) (R1 v.2.1) (R1 v.2.2.1) + g1 ∧
      R1 (t_i_RotateBy t v).2.1 = py (R1 t.1) (R1 t.2.1) (R1 t.2.2.1) (R1 t.2.2.2.1) (R1 v.1) (R1 v.2.1) (R1 v.2.2.1) + g2 ∧
      R1 (t_i_RotateBy t v).2.2.1 = pz (R1 t.1) (R1 t.2.1) (R1 t.2.2.1) (R1 t.2.2.2.1) (R1 v.1) (R1 v.2.1) (R1 v.2.2.1) + g3 ∧
      NB g1 g2 g3 (1 / 1600000 * A + 17321 / 10000 * (V * (63 * u32))) ∧ (In g1 (1 / 1600000 * V + V * (63 * u32)) ∧ In g2 (1 / 1600000 * V + V * (63 * u32)) ∧ In g3 (1 / 1600000 * V + V * (63 * u32))) := by
  obtain ⟨r1, r2, r3⟩ := rot_err ht hv i1 i2 i3 i4 v1 v2 v3 hV1 hV2
  refine ⟨⟨r1.1, r2.1, r3.1⟩, ?_⟩
  obtain ⟨e1, h1, k1⟩ := near_err' r1.2
  obtain ⟨e2, h2, k2⟩ := near_err' r2.2
  obtain ⟨e3, h3, k3⟩ := near_err' r3.2
  rw [qx_px, hS] at h1
  rw [qy_py, hS] at h2
  rw [qz_pz, hS] at h3
  have hd : In (1 - S) (1 / 1600000) := ⟨by have := hS1.2; grind, by have := hS1.1; grind⟩
  exact ⟨(1 - S) * R1 v.1 + e1, (1 - S) * R1 v.2.1 + e2, (1 - S) * R1 v.2.2.1 + e3, by rw [← Rat.add_assoc]; exact h1, by rw [← Rat.add_assoc]; exact h2, by rw [← Rat.add_assoc]; exact h3,
    (hA.smul hd).add (NB.of k1 k2 k3), (hd.mul v1).add k1, (hd.mul v2).add k2, (hd.mul v3).add k3⟩

theorem QV.R {v : dVec} (h : QV v) : finV v ∧ In (R1 v.1) 4 ∧ In (R1 v.2.1) 4 ∧ In (R1 v.2.2.1) 4 := ⟨⟨h.1.R.2.1, h.2.1.R.2.1, h.2.2.R.2.1⟩, h.1.R.2.2.1, h.2.1.R.2.2.1, h.2.2.R.2.2.1⟩

end Go.Fw
