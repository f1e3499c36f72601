/- What is drawn from bytes: it comes to an end, and its numbers are numbers. No condition. -/
import Derived.Test.YtalhiopcegnobaaSEq1
set_option linter.unusedVariables false
set_option linter.unusedSimpArgs false
namespace Go.Fw

/-- A source that has been read at most n times. -/
def okS (n : Nat) (s : dSrc) : Prop := (∀ x ∈ s.1, 0 ≤ x ∧ x ≤ 255) ∧ s.1.length ≤ 4294967296 ∧ 0 ≤ s.2.1 ∧ s.2.1 ≤ n
theorem okS.up {n m : Nat} {s : dSrc} (h : okS n s) (hm : n ≤ m) : okS m s := ⟨h.1, h.2.1, h.2.2.1, by have := h.2.2.2; omega⟩

theorem rt_r8At {code : List Int} (k : Nat) (n : Nat) (h : ∀ x ∈ code, 0 ≤ x ∧ x ≤ 255) (h1 : 1 ≤ n) : Ret (g_w_r8At code (k : Int) (n : Int)) fun y => 0 ≤ y ∧ y < n := by
  unfold g_w_r8At
  refine Ret.cond (fun _ => Ret.pure ⟨Int.le_refl 0, by omega⟩) fun _ => Ret.cond (fun _ => Ret.pure ⟨Int.le_refl 0, by omega⟩) fun hc => ?_
  (simp only [ilt_T, ilt_F, ile_T, ile_F, ieq_T, ieq_F, bnot_T, bnot_F, ble_T, ble_F, nz_T, nz_F, nonneg_T, nonneg_F] at hc)
  rw [ix_nat (by omega), opt_bind_some]
  have hb := h (code.getD k 0) (by
    have hlt : k < code.length := by omega
    simp [List.getD_eq_getElem?_getD, hlt])
  refine Ret.cond (fun _ => Ret.pure ?_) fun hz => ?_
  · rw [iconv_ok (by omega) (by omega), irem_nn hb.1]
    exact ⟨Int.emod_nonneg _ (by omega), Int.emod_lt_of_pos _ (by omega)⟩
  · (simp only [ilt_T, ilt_F, ile_T, ile_F, ieq_T, ieq_F, bnot_T, bnot_F, ble_T, ble_F, nz_T, nz_F, nonneg_T, nonneg_F] at hz); omega
end Go.Fw
