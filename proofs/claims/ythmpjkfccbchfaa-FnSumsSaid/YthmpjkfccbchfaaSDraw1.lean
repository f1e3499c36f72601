/- What is drawn from bytes: it comes to an end, and its numbers are numbers. No condition. -/
import Derived.Test.YthmpjkfccbchfaaSEq1
set_option linter.unusedVariables false
set_option linter.unusedSimpArgs false
namespace Go.Fw

/-- A source that has been read at most n times. -/
def okS (n : Nat) (s : dSrc) : Prop := (∀ x ∈ s.1, 0 ≤ x ∧ x ≤ 255) ∧ s.1.length ≤ 4294967296 ∧ 0 ≤ s.2.1 ∧ s.2.1 ≤ n
theorem okS.up {n m : Nat} {s : dSrc} (h : okS n s) (hm : n ≤ m) : okS m s := ⟨h.1, h.2.1, h.2.2.1, by have := h.2.2.2; omega⟩

theorem and255 (a : Int) : 0 ≤ iand .u64 a 255 ∧ iand .u64 a 255 ≤ 255 := by
  have e : iand .u64 a 255 = IntKind.u64.wrap ((BitVec.ofInt 64 a &&& BitVec.ofInt 64 255).toNat : Int) := rfl
  have h : (BitVec.ofInt 64 a &&& BitVec.ofInt 64 255).toNat ≤ 255 := by
    rw [BitVec.toNat_and]
    exact Nat.le_trans Nat.and_le_right (by decide)
  rw [e, IntKind.wrap_u64]
  omega

theorem rt_next {n : Nat} {s : dSrc} (h : okS n s) (hn : n ≤ 4611686018427387000) : Ret (g_s_l00Src_next s) fun y => (0 ≤ y.1 ∧ y.1 ≤ 255) ∧ okS (n + 1) y.2.1 := by
  obtain ⟨h1, h2, h3, h4⟩ := h
  have hi : iadd .i64 s.2.1 1 = s.2.1 + 1 := iadd_ok (by omega) (by omega)
  have hv : ∀ a, 0 ≤ iconv .i64 (iand .u64 a 255) ∧ iconv .i64 (iand .u64 a 255) ≤ 255 := fun a => by
    have := and255 a
    rw [iconv_ok (by omega) (by omega)]; exact this
  unfold g_s_l00Src_next
  rw [hi]
  refine Ret.cond (fun hc => ?_) fun _ => ?_
  · (simp only [ilt_T, ilt_F, ile_T, ile_F, ieq_T, ieq_F, bnot_T, bnot_F, ble_T, ble_F, nz_T, nz_F, nonneg_T, nonneg_F] at hc)
    refine Ret.ix h3 hc ?_
    have hb := h1 (s.1.getD s.2.1.toNat 0) (by
      have hlt : s.2.1.toNat < s.1.length := by omega
      simp [List.getD_eq_getElem?_getD, hlt])
    refine Ret.cond (fun _ => Ret.pure ⟨?_, h1, h2, ?_, ?_⟩) fun _ => Ret.pure ⟨hv _, h1, h2, ?_, ?_⟩
    · rw [iconv_ok (by omega) (by omega)]; exact hb
    all_goals (dsimp only; omega)
  · refine Ret.cond (fun _ => Ret.pure ⟨by dsimp only; omega, h1, h2, ?_, ?_⟩) fun _ => Ret.pure ⟨hv _, h1, h2, ?_, ?_⟩
    all_goals (dsimp only; omega)

theorem rt_pick {n : Nat} {s : dSrc} (m : Int) (h : okS n s) (hn : n ≤ 4611686018427380000) (hm : m ≤ 65536) : Ret (g_s_l00Src_pick s m) fun y => (0 ≤ y.1 ∧ (y.1 < m ∨ y.1 = 0)) ∧ okS (n + 2) y.2.1 := by
  unfold g_s_l00Src_pick
  refine Ret.cond (fun _ => Ret.pure ⟨⟨by dsimp only; omega, .inr rfl⟩, h.up (by omega)⟩) fun hc => ?_
  (simp only [ilt_T, ilt_F, ile_T, ile_F, ieq_T, ieq_F, bnot_T, bnot_F, ble_T, ble_F, nz_T, nz_F, nonneg_T, nonneg_F] at hc)
  refine Ret.bind ((rt_next h (by omega)).mono fun y hy => ?_)
  refine Ret.cond (fun _ => Ret.bind ((rt_next hy.2 (by omega)).mono fun z hz => Ret.cond (fun _ => Ret.pure ?_) fun hz' => ?_)) fun _ => Ret.cond (fun _ => Ret.pure ?_) fun hz' => ?_
  · have e1 : imul .i64 y.1 256 = y.1 * 256 := by
      show IntKind.i64.wrap _ = _
      rw [wrap_i64 (by omega) (by omega)]
    have e2 : iadd .i64 (y.1 * 256) z.1 = y.1 * 256 + z.1 := iadd_ok (by omega) (by omega)
    rw [e1, e2, irem_nn (by omega)]
    have h1 := Int.emod_nonneg (y.1 * 256 + z.1) (show m ≠ 0 by omega)
    have h2 := Int.emod_lt_of_pos (y.1 * 256 + z.1) (show 0 < m by omega)
    exact ⟨⟨h1, .inl h2⟩, hz.2⟩
  · (simp only [ilt_T, ilt_F, ile_T, ile_F, ieq_T, ieq_F, bnot_T, bnot_F, ble_T, ble_F, nz_T, nz_F, nonneg_T, nonneg_F] at hz'); omega
  · rw [irem_nn (by omega)]
    have h1 := Int.emod_nonneg y.1 (show m ≠ 0 by omega)
    have h2 := Int.emod_lt_of_pos y.1 (show 0 < m by omega)
    exact ⟨⟨h1, .inl h2⟩, hy.2.up (by omega)⟩
  · (simp only [ilt_T, ilt_F, ile_T, ile_F, ieq_T, ieq_F, bnot_T, bnot_F, ble_T, ble_F, nz_T, nz_F, nonneg_T, nonneg_F] at hz'); omega

theorem okS_from {code : List Int} (h : ∀ x ∈ code, 0 ≤ x ∧ x ≤ 255) (hl : code.length ≤ 4294967296) : okS 0 (t_s_l00From code).1 := ⟨h, hl, Int.le_refl 0, Int.le_refl 0⟩

theorem rt_one {n : Nat} {s : dSrc} (m : Int) (h : okS n s) (hn : n ≤ 4611686018427380000) (hm : m ≤ 65536) : Ret (g_s_l00Src_one s m) fun y => okS (n + 2) y.2.1 := by
  unfold g_s_l00Src_one
  exact Ret.bind ((rt_pick m h hn hm).mono fun y hy => Ret.pure hy.2)

theorem rt_DrawPlain {n : Nat} {s : dSrc} (h : okS n s) (hn : n ≤ 4611686018427380000 - 2) : Ret (g_s_l01DrawPlain s) fun y => okF .f32 y.1 ∧ okS (n + 4) y.2.1 := by
  unfold g_s_l01DrawPlain
  exact Ret.bind ((rt_pick 129 h (by omega) (by omega)).mono fun y hy => Ret.bind ((rt_one 4 hy.2 (by omega) (by omega)).mono fun z hz => Ret.cond (fun _ => Ret.pure ⟨fdiv_okF _ _ _, hz⟩) fun _ => Ret.pure ⟨fdiv_okF _ _ _, hz⟩))

theorem rt_among {n : Nat} {s : dSrc} (l : List Int) (h : okS n s) (hn : n ≤ 4611686018427380000) (hl : l.length ≤ 65536) (h0 : 0 < l.length) : Ret (g_s_l00Src_among s l) fun y => okS (n + 2) y.2.1 := by
  unfold g_s_l00Src_among
  exact Ret.bind ((rt_pick (l.length : Int) h hn (by omega)).mono fun y hy => Ret.ix hy.1.1 (by have := hy.1.2; omega) (Ret.pure hy.2))

theorem l01From_okF (k : Int) : okF .f32 (t_s_l01From k) := by
  unfold t_s_l01From t_float32frombits
  have h : (iconv .u32 k).toNat < 2 ^ FloatKind.f32.format.width := by
    have : FloatKind.f32.format.width = 32 := rfl
    rw [this]
    show (IntKind.u32.wrap k).toNat < _
    rw [IntKind.wrap_u32]
    omega
  refine ⟨?_, canon_canon _ _⟩
  cases hn : isNan .f32 (iconv .u32 k).toNat
  · rw [canon_num hn]; exact h
  · rw [canon_nan hn]; exact qnan_lt _

theorem rt_DrawFloat {n : Nat} {s : dSrc} (h : okS n s) (hn : n ≤ 4611686018427370000) : Ret (g_s_l01DrawFloat s) fun y => okF .f32 y.1 ∧ okS (n + 10) y.2.1 := by
  unfold g_s_l01DrawFloat
  refine Ret.bind ((rt_one 12 h (by omega) (by omega)).mono fun y hy => Ret.cond (fun _ => ?_) fun _ => ?_)
  · exact Ret.bind ((rt_DrawPlain hy (by omega)).mono fun z hz => Ret.pure ⟨hz.1, hz.2.up (by omega)⟩)
  · refine Ret.bind ((rt_pick 4 hy (by omega) (by omega)).mono fun z hz => Ret.cond (fun _ => ?_) fun _ => Ret.cond (fun _ => ?_) fun _ => Ret.cond (fun _ => ?_) fun _ => ?_)
    · exact Ret.bind ((rt_among _ hz.2 (by omega) (by simp) (by simp)).mono fun u hu => Ret.pure ⟨l01From_okF _, hu.up (by omega)⟩)
    · exact Ret.bind ((rt_pick 65536 hz.2 (by omega) (by omega)).mono fun u hu => Ret.bind ((rt_pick 65536 hu.2 (by omega) (by omega)).mono fun v hv => Ret.pure ⟨l01From_okF _, hv.2.up (by omega)⟩))
    · exact Ret.bind ((rt_pick 65536 hz.2 (by omega) (by omega)).mono fun u hu => Ret.pure ⟨l01From_okF _, hu.2.up (by omega)⟩)
    · exact Ret.bind ((rt_DrawPlain hz.2 (by omega)).mono fun u hu => Ret.bind ((rt_among _ hu.2 (by omega) (by simp) (by simp)).mono fun v hv => Ret.pure ⟨fmul_okF _ _ _, hv.up (by omega)⟩))

def okT (s : dTurn) : Prop := okF .f32 s.1 ∧ okF .f32 s.2.1 ∧ okF .f32 s.2.2.1 ∧ okF .f32 s.2.2.2.1
theorem rt_DrawFloats {n : Nat} {s : dSrc} (k : Nat) (h : okS n s) (hk : k ≤ 1000000) (hn : n ≤ 4611686018000000000) : Ret (g_s_l01DrawFloats s (k : Int)) fun y => y.1.length = k ∧ ∀ x ∈ y.1, okF .f32 x := by
  unfold g_s_l01DrawFloats
  refine Ret.bind ((rt_one 4 h (by omega) (by omega)).mono fun a ha => Ret.bind ((Ret.iter (fun m d => ∃ (i : Nat) (s0 : dSrc) (r : List Nat), i + m = k ∧ r.length = i ∧ (∀ x ∈ r, okF .f32 x) ∧ okS (n + 2 + 10 * i) s0 ∧ d = (((m : Int), (a.1, ())), (s0, (r, ())))) (fun o => o.2.2.1.length = k ∧ ∀ x ∈ o.2.2.1, okF .f32 x) ?_ fuel k _ ⟨0, _, [], by omega, rfl, by simp, ha, rfl⟩ (by unfold fuel; omega)).mono fun y hy => Ret.pure hy))
  rintro r m d ⟨i, s0, q, hi, hq, hok, hs, rfl⟩ ih
  simp only [L_s_l01DrawFloats_1]
  refine Ret.cond (fun hc => ?_) fun hc => Ret.pure ?_
  · (simp only [ilt_T, ilt_F, ile_T, ile_F, ieq_T, ieq_F, bnot_T, bnot_F, ble_T, ble_F, nz_T, nz_F, nonneg_T, nonneg_F] at hc)
    have e : isub .i64 (m : Int) 1 = ((m - 1 : Nat) : Int) := by rw [isub_ok (by omega) (by omega)]; omega
    refine Ret.cond (fun _ => ?_) fun _ => ?_
    · refine Ret.bind ((rt_DrawFloat hs (by omega)).mono fun y hy => ?_)
      rw [ble_t (by omega), cond_t, e]
      refine ih (m - 1) _ (by omega) ⟨i + 1, _, _, by omega, by simp; omega, ?_, hy.2.up (by omega), rfl⟩
      intro x hx
      rcases List.mem_append.1 hx with hx | hx
      · exact hok x hx
      · simp at hx; subst hx; exact hy.1
    · refine Ret.bind ((rt_DrawPlain hs (by omega)).mono fun y hy => ?_)
      rw [ble_t (by omega), cond_t, e]
      refine ih (m - 1) _ (by omega) ⟨i + 1, _, _, by omega, by simp; omega, ?_, hy.2.up (by omega), rfl⟩
      intro x hx
      rcases List.mem_append.1 hx with hx | hx
      · exact hok x hx
      · simp at hx; subst hx; exact hy.1
  · (simp only [ilt_T, ilt_F, ile_T, ile_F, ieq_T, ieq_F, bnot_T, bnot_F, ble_T, ble_F, nz_T, nz_F, nonneg_T, nonneg_F] at hc)
    exact ⟨by dsimp only; omega, hok⟩

end Go.Fw
