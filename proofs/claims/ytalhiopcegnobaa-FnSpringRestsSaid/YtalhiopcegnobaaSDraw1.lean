/- What is drawn from bytes: it comes to an end, and its numbers are numbers. No condition. -/
import Derived.Test.YtalhiopcegnobaaSEq1
set_option linter.unusedVariables false
set_option linter.unusedSimpArgs false
namespace Go.Fw

/-- A source that has been read at most n times. -/
def okS (n : Nat) (s : dSrc) : Prop := (∀ x ∈ s.1, 0 ≤ x ∧ x ≤ 255) ∧ s.1.length ≤ 4294967296 ∧ 0 ≤ s.2.1 ∧ s.2.1 ≤ n
theorem okS.up {n m : Nat} {s : dSrc} (h : okS n s) (hm : n ≤ m) : okS m s := ⟨h.1, h.2.1, h.2.2.1, by have := h.2.2.2; omega⟩

theorem and255 (a : Int) : 0 ≤ iand .u64 a 255 ∧ iand .u64 a 255 ≤ 255 := by
  have e : iand .u64 a 255 = IntKind.u64.wrap ((BitVec.ofInt 64 a &&& BitVec.ofInt 64 255).toNat : Int) := rfl
  have h : (BitVec.ofInt 64 a &&& BitVec.ofInt 64 255).toNat ≤ 255 := by
    rw [BitVec.toNat_and]
    exact Nat.le_trans Nat.and_le_right (by decide)
  rw [e, IntKind.wrap_u64]
  omega

theorem rt_next {n : Nat} {s : dSrc} (h : okS n s) (hn : n ≤ 4611686018427387000) : Ret (g_s_l00Src_next s) fun y => (0 ≤ y.1 ∧ y.1 ≤ 255) ∧ okS (n + 1) y.2.1 := by
  obtain ⟨h1, h2, h3, h4⟩ := h
  have hi : iadd .i64 s.2.1 1 = s.2.1 + 1 := iadd_ok (by omega) (by omega)
  have hv : ∀ a, 0 ≤ iconv .i64 (iand .u64 a 255) ∧ iconv .i64 (iand .u64 a 255) ≤ 255 := fun a => by
    have := and255 a
    rw [iconv_ok (by omega) (by omega)]; exact this
  unfold g_s_l00Src_next
  rw [hi]
  refine Ret.cond (fun hc => ?_) fun _ => ?_
  · (simp only [ilt_T, ilt_F, ile_T, ile_F, ieq_T, ieq_F, bnot_T, bnot_F, ble_T, ble_F, nz_T, nz_F, nonneg_T, nonneg_F] at hc)
    refine Ret.ix h3 hc ?_
    have hb := h1 (s.1.getD s.2.1.toNat 0) (by
      have hlt : s.2.1.toNat < s.1.length := by omega
      simp [List.getD_eq_getElem?_getD, hlt])
    refine Ret.cond (fun _ => Ret.pure ⟨?_, h1, h2, ?_, ?_⟩) fun _ => Ret.pure ⟨hv _, h1, h2, ?_, ?_⟩
    · rw [iconv_ok (by omega) (by omega)]; exact hb
    all_goals (dsimp only; omega)
  · refine Ret.cond (fun _ => Ret.pure ⟨by dsimp only; omega, h1, h2, ?_, ?_⟩) fun _ => Ret.pure ⟨hv _, h1, h2, ?_, ?_⟩
    all_goals (dsimp only; omega)

theorem rt_pick {n : Nat} {s : dSrc} (m : Int) (h : okS n s) (hn : n ≤ 4611686018427380000) (hm : m ≤ 65536) : Ret (g_s_l00Src_pick s m) fun y => (0 ≤ y.1 ∧ (y.1 < m ∨ y.1 = 0)) ∧ okS (n + 2) y.2.1 := by
  unfold g_s_l00Src_pick
  refine Ret.cond (fun _ => Ret.pure ⟨⟨by dsimp only; omega, .inr rfl⟩, h.up (by omega)⟩) fun hc => ?_
  (simp only [ilt_T, ilt_F, ile_T, ile_F, ieq_T, ieq_F, bnot_T, bnot_F, ble_T, ble_F, nz_T, nz_F, nonneg_T, nonneg_F] at hc)
  refine Ret.bind ((rt_next h (by omega)).mono fun y hy => ?_)
  refine Ret.cond (fun _ => Ret.bind ((rt_next hy.2 (by omega)).mono fun z hz => Ret.cond (fun _ => Ret.pure ?_) fun hz' => ?_)) fun _ => Ret.cond (fun _ => Ret.pure ?_) fun hz' => ?_
  · have e1 : imul .i64 y.1 256 = y.1 * 256 := by
      show IntKind.i64.wrap _ = _
      rw [wrap_i64 (by omega) (by omega)]
    have e2 : iadd .i64 (y.1 * 256) z.1 = y.1 * 256 + z.1 := iadd_ok (by omega) (by omega)
    rw [e1, e2, irem_nn (by omega)]
    have h1 := Int.emod_nonneg (y.1 * 256 + z.1) (show m ≠ 0 by omega)
    have h2 := Int.emod_lt_of_pos (y.1 * 256 + z.1) (show 0 < m by omega)
    exact ⟨⟨h1, .inl h2⟩, hz.2⟩
  · (simp only [ilt_T, ilt_F, ile_T, ile_F, ieq_T, ieq_F, bnot_T, bnot_F, ble_T, ble_F, nz_T, nz_F, nonneg_T, nonneg_F] at hz'); omega
  · rw [irem_nn (by omega)]
    have h1 := Int.emod_nonneg y.1 (show m ≠ 0 by omega)
    have h2 := Int.emod_lt_of_pos y.1 (show 0 < m by omega)
    exact ⟨⟨h1, .inl h2⟩, hy.2.up (by omega)⟩
  · (simp only [ilt_T, ilt_F, ile_T, ile_F, ieq_T, ieq_F, bnot_T, bnot_F, ble_T, ble_F, nz_T, nz_F, nonneg_T, nonneg_F] at hz'); omega

theorem okS_from {code : List Int} (h : ∀ x ∈ code, 0 ≤ x ∧ x ≤ 255) (hl : code.length ≤ 4294967296) : okS 0 (t_s_l00From code).1 := ⟨h, hl, Int.le_refl 0, Int.le_refl 0⟩

def okT (s : dTurn) : Prop := okF .f32 s.1 ∧ okF .f32 s.2.1 ∧ okF .f32 s.2.2.1 ∧ okF .f32 s.2.2.2.1
theorem rt_r8At {code : List Int} (k : Nat) (n : Nat) (h : ∀ x ∈ code, 0 ≤ x ∧ x ≤ 255) (h1 : 1 ≤ n) : Ret (g_w_r8At code (k : Int) (n : Int)) fun y => 0 ≤ y ∧ y < n := by
  unfold g_w_r8At
  refine Ret.cond (fun _ => Ret.pure ⟨Int.le_refl 0, by omega⟩) fun _ => Ret.cond (fun _ => Ret.pure ⟨Int.le_refl 0, by omega⟩) fun hc => ?_
  (simp only [ilt_T, ilt_F, ile_T, ile_F, ieq_T, ieq_F, bnot_T, bnot_F, ble_T, ble_F, nz_T, nz_F, nonneg_T, nonneg_F] at hc)
  rw [ix_nat (by omega), opt_bind_some]
  have hb := h (code.getD k 0) (by
    have hlt : k < code.length := by omega
    simp [List.getD_eq_getElem?_getD, hlt])
  refine Ret.cond (fun _ => Ret.pure ?_) fun hz => ?_
  · rw [iconv_ok (by omega) (by omega), irem_nn hb.1]
    exact ⟨Int.emod_nonneg _ (by omega), Int.emod_lt_of_pos _ (by omega)⟩
  · (simp only [ilt_T, ilt_F, ile_T, ile_F, ieq_T, ieq_F, bnot_T, bnot_F, ble_T, ble_F, nz_T, nz_F, nonneg_T, nonneg_F] at hz); omega
end Go.Fw
