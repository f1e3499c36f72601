/- FnTwoBones: two bones reach a goal. No condition. -/
import Derived.Test.YthmpjkfccbchfaaFEq10
set_option linter.unusedVariables false
set_option linter.unusedSimpArgs false
namespace Go.Fw

/-! ### the law in rational numbers -/
/-- The part of a pole across the goal. -/
theorem geo {g1 g2 g3 p1 p2 p3 w1 w2 w3 e1 e2 e3 N M κ : Rat} (hN0 : 1 / 5 ≤ N) (hN7 : N ≤ 7) (hN : Near (N * N) (g1 * g1 + g2 * g2 + g3 * g3) ((g1 * g1 + g2 * g2 + g3 * g3) * (41 / 100000000)))
    (hp : NB p1 p2 p3 (69284 / 10000)) (hK : 1 / 256 ≤ (p2 * g3 - p3 * g2) * (p2 * g3 - p3 * g2) + (p3 * g1 - p1 * g3) * (p3 * g1 - p1 * g3) + (p1 * g2 - p2 * g1) * (p1 * g2 - p2 * g1))
    (hκ : κ * (N * N) = p1 * g1 + p2 * g2 + p3 * g3) (h1 : w1 = p1 - g1 * κ + e1) (h2 : w2 = p2 - g2 * κ + e2) (h3 : w3 = p3 - g3 * κ + e3) (he : NB e1 e2 e3 (1 / 95000)) (hM0 : 0 ≤ M)
    (hM : Near (M * M) (w1 * w1 + w2 * w2 + w3 * w3) ((w1 * w1 + w2 * w2 + w3 * w3) * (1 / 2500000) + tin * tin / 100)) :
    88 / 10000 ≤ M ∧ In (g1 * w1 + g2 * w2 + g3 * w3) (N * (14 / 1000000)) ∧ In (w1 * w1 + w2 * w2 + w3 * w3 - M * M) (M * M * (5 / 10000000)) ∧ -(M * (11 / 1000000)) ≤ w1 * (p1 - g1 * κ) + w2 * (p2 - g2 * κ) + w3 * (p3 - g3 * κ) := by
  have hNN := sq_nn N
  have hNN49 : N * N ≤ 49 := by have := sq_le (a := N) (b := 7) (by grind) hN7; grind
  have hNb := hN.1
  have hNa := hN.2
  have gs1 := sq_nn g1; have gs2 := sq_nn g2; have gs3 := sq_nn g3
  have hg : NB g1 g2 g3 (N * (100001 / 100000)) := ⟨by grind, by grind⟩
  have hW : NB (p1 - g1 * κ) (p2 - g2 * κ) (p3 - g3 * κ) ((w1 * w1 + w2 * w2 + w3 * w3) * 0 + 1000) ∨ True := .inr trivial
  have wid : w1 + -e1 = p1 - g1 * κ ∧ w2 + -e2 = p2 - g2 * κ ∧ w3 + -e3 = p3 - g3 * κ := ⟨by grind, by grind, by grind⟩
  -- how great the part is
  have hident : ((p1 - g1 * κ) * (p1 - g1 * κ) + (p2 - g2 * κ) * (p2 - g2 * κ) + (p3 - g3 * κ) * (p3 - g3 * κ)) * (g1 * g1 + g2 * g2 + g3 * g3) =
      ((p2 * g3 - p3 * g2) * (p2 * g3 - p3 * g2) + (p3 * g1 - p1 * g3) * (p3 * g1 - p1 * g3) + (p1 * g2 - p2 * g1) * (p1 * g2 - p2 * g1)) + ((p1 * g1 + p2 * g2 + p3 * g3) - κ * (g1 * g1 + g2 * g2 + g3 * g3)) * ((p1 * g1 + p2 * g2 + p3 * g3) - κ * (g1 * g1 + g2 * g2 + g3 * g3)) := by grind
  have hsq := sq_nn ((p1 * g1 + p2 * g2 + p3 * g3) - κ * (g1 * g1 + g2 * g2 + g3 * g3))
  have hWlow : 795 / 10000000 ≤ (p1 - g1 * κ) * (p1 - g1 * κ) + (p2 - g2 * κ) * (p2 - g2 * κ) + (p3 - g3 * κ) * (p3 - g3 * κ) := by
    refine Rat.not_lt.1 fun hl => ?_
    have hGG : g1 * g1 + g2 * g2 + g3 * g3 ≤ 491 / 10 := by grind
    have q0 := sq_nn (p1 - g1 * κ); have q1 := sq_nn (p2 - g2 * κ); have q2 := sq_nn (p3 - g3 * κ)
    have a := Rat.mul_le_mul_of_nonneg_left hGG (show 0 ≤ (p1 - g1 * κ) * (p1 - g1 * κ) + (p2 - g2 * κ) * (p2 - g2 * κ) + (p3 - g3 * κ) * (p3 - g3 * κ) by grind)
    rw [hident] at a
    clear hident hκ h1 h2 h3 wid hM
    generalize (p1 - g1 * κ) * (p1 - g1 * κ) + (p2 - g2 * κ) * (p2 - g2 * κ) + (p3 - g3 * κ) * (p3 - g3 * κ) = T at *
    grind
  have ws1 := sq_nn w1; have ws2 := sq_nn w2; have ws3 := sq_nn w3
  have hM1 := hM.1
  have hM2 := hM.2
  have hwM : NB w1 w2 w3 (M * (1000001 / 1000000) + tin) := by
    refine ⟨?_, by unfold tin; grind⟩
    have hMM := sq_nn M
    rw [show (M * (1000001 / 1000000) + tin) * (M * (1000001 / 1000000) + tin) = M * M * (1000001 / 1000000 * (1000001 / 1000000)) + M * (2 * tin * (1000001 / 1000000)) + tin * tin by grind]
    generalize w1 * w1 + w2 * w2 + w3 * w3 = T at *
    unfold tin at *
    grind
  have hMlow : 88 / 10000 ≤ M := by
    refine Rat.not_lt.1 fun hl => ?_
    have hb := (hwM.add he.neg).mono (B := 8811 / 1000000) (by unfold tin; grind)
    rw [wid.1, wid.2.1, wid.2.2] at hb
    have := hb.1
    grind
  have hMM : 7 / 100000 ≤ M * M := by have := sq_le (a := 88 / 10000) (b := M) (by decide +kernel) hMlow; grind
  refine ⟨hMlow, ?_, ?_, ?_⟩
  · have hge := hg.inner he
    have hD := hp.inner hg
    have hκN : In (κ * N) (69285 / 10000) := by
      refine In.cancel (c := N) (by grind) ?_
      rw [show κ * N * N = κ * (N * N) by grind, hκ]
      exact hD.mono (by grind)
    have hNd : In (N * N - (g1 * g1 + g2 * g2 + g3 * g3)) (N * N * (42 / 100000000)) := ⟨by grind, by grind⟩
    have hkd : In (κ * (N * N - (g1 * g1 + g2 * g2 + g3 * g3))) (N * (3 / 1000000)) := by
      refine In.cancel (c := N) (by grind) ?_
      have := hκN.mul hNd
      rw [show κ * (N * N - (g1 * g1 + g2 * g2 + g3 * g3)) * N = κ * N * (N * N - (g1 * g1 + g2 * g2 + g3 * g3)) by grind]
      exact this.mono (by grind)
    have e : g1 * w1 + g2 * w2 + g3 * w3 = κ * (N * N - (g1 * g1 + g2 * g2 + g3 * g3)) + (g1 * e1 + g2 * e2 + g3 * e3) := by
      rw [h1, h2, h3]
      have : κ * (N * N - (g1 * g1 + g2 * g2 + g3 * g3)) = (p1 * g1 + p2 * g2 + p3 * g3) - κ * (g1 * g1 + g2 * g2 + g3 * g3) := by rw [← hκ]; grind
      rw [this]; grind
    rw [e]
    exact (hkd.add hge).mono (by grind)
  · generalize w1 * w1 + w2 * w2 + w3 * w3 = T at *
    unfold tin at *
    exact ⟨by grind, by grind⟩
  · have hwe := hwM.inner he
    have e : w1 * (p1 - g1 * κ) + w2 * (p2 - g2 * κ) + w3 * (p3 - g3 * κ) = (w1 * w1 + w2 * w2 + w3 * w3) - (w1 * e1 + w2 * e2 + w3 * e3) := by rw [← wid.1, ← wid.2.1, ← wid.2.2]; grind
    rw [e]
    have := hwe.2
    have h0 : 0 ≤ w1 * w1 + w2 * w2 + w3 * w3 := by grind
    unfold tin at *
    generalize w1 * w1 + w2 * w2 + w3 * w3 = T at *
    grind

/-- The length of what lies along the goal and across it. -/
theorem along_len {g1 g2 g3 w1 w2 w3 N M l μ Y Z L : Rat} (hN0 : 1 / 5 ≤ N) (hN : Near (N * N) (g1 * g1 + g2 * g2 + g3 * g3) ((g1 * g1 + g2 * g2 + g3 * g3) * (41 / 100000000)))
    (hM0 : 88 / 10000 ≤ M) (hM : In (w1 * w1 + w2 * w2 + w3 * w3 - M * M) (M * M * (5 / 10000000))) (hgw : In (g1 * w1 + g2 * w2 + g3 * w3) (N * (14 / 1000000)))
    (hY : l * N = Y) (hZ : μ * M = Z) (hL1 : 1 / 4 ≤ L) (hL2 : L ≤ 5) (hYZ : In (Y * Y + Z * Z - L * L) (36 / 100000)) :
    NB (l * g1 + μ * w1) (l * g2 + μ * w2) (l * g3 + μ * w3) (L + 95 / 10000) ∧
    (L - 95 / 10000) * (L - 95 / 10000) ≤ (l * g1 + μ * w1) * (l * g1 + μ * w1) + (l * g2 + μ * w2) * (l * g2 + μ * w2) + (l * g3 + μ * w3) * (l * g3 + μ * w3) := by
  have hMp : 0 < M := by grind
  have hNp : 0 < N := by grind
  have hMN : 0 < M * N := Rat.mul_pos hMp hNp
  -- the inner product, against the lengths
  have er := div_mul (a := g1 * w1 + g2 * w2 + g3 * w3) (b := M * N) (by grind)
  generalize (g1 * w1 + g2 * w2 + g3 * w3) / (M * N) = r at *
  have hr : In r (16 / 10000) := by
    refine In.cancel hMN ?_
    rw [er]
    have := Rat.mul_le_mul_of_nonneg_right hM0 (show 0 ≤ N by grind)
    exact hgw.mono (by grind)
  have e : (l * g1 + μ * w1) * (l * g1 + μ * w1) + (l * g2 + μ * w2) * (l * g2 + μ * w2) + (l * g3 + μ * w3) * (l * g3 + μ * w3) = l * l * (g1 * g1 + g2 * g2 + g3 * g3) + μ * μ * (w1 * w1 + w2 * w2 + w3 * w3) + r * (2 * (Y * Z)) := by
    have : r * (2 * (Y * Z)) = 2 * l * μ * (g1 * w1 + g2 * w2 + g3 * w3) := by rw [← er, ← hY, ← hZ]; grind
    rw [this]; grind
  have hll := sq_nn l
  have hμμ := sq_nn μ
  have hNb := hN.1
  have hNa := hN.2
  have t1 : In (l * l * (g1 * g1 + g2 * g2 + g3 * g3) - Y * Y) (Y * Y * (42 / 100000000)) := by
    have hd : In (g1 * g1 + g2 * g2 + g3 * g3 - N * N) (N * N * (42 / 100000000)) := ⟨by have := sq_nn N; grind, by have := sq_nn N; grind⟩
    have hlin : In (l * l) (l * l) := ⟨by grind, by grind⟩
    have := hlin.mul hd
    rw [show l * l * (g1 * g1 + g2 * g2 + g3 * g3 - N * N) = l * l * (g1 * g1 + g2 * g2 + g3 * g3) - Y * Y by rw [← hY]; grind, show l * l * (N * N * (42 / 100000000)) = Y * Y * (42 / 100000000) by rw [← hY]; grind] at this
    exact this
  have t2 : In (μ * μ * (w1 * w1 + w2 * w2 + w3 * w3) - Z * Z) (Z * Z * (5 / 10000000)) := by
    have hlin : In (μ * μ) (μ * μ) := ⟨by grind, by grind⟩
    have := hlin.mul hM
    rw [show μ * μ * (w1 * w1 + w2 * w2 + w3 * w3 - M * M) = μ * μ * (w1 * w1 + w2 * w2 + w3 * w3) - Z * Z by rw [← hZ]; grind, show μ * μ * (M * M * (5 / 10000000)) = Z * Z * (5 / 10000000) by rw [← hZ]; grind] at this
    exact this
  have y0 := sq_nn Y; have z0 := sq_nn Z
  have hyz : In (2 * (Y * Z)) (Y * Y + Z * Z) := by
    have a := sq_nn (Y + Z); have b := sq_nn (Y - Z)
    exact ⟨by grind, by grind⟩
  have t3 := hr.mul hyz
  have hL := Rat.mul_nonneg (a := L - 1 / 4) (b := 5 - L) (by grind) (by grind)
  have a1 := t1.1; have a2 := t1.2; have a3 := t2.1; have a4 := t2.2; have a5 := t3.1; have a6 := t3.2; have a7 := hYZ.1; have a8 := hYZ.2
  have key : l * l * (g1 * g1 + g2 * g2 + g3 * g3) + μ * μ * (w1 * w1 + w2 * w2 + w3 * w3) + r * (2 * (Y * Z)) ≤ (L + 95 / 10000) * (L + 95 / 10000) ∧ (L - 95 / 10000) * (L - 95 / 10000) ≤ l * l * (g1 * g1 + g2 * g2 + g3 * g3) + μ * μ * (w1 * w1 + w2 * w2 + w3 * w3) + r * (2 * (Y * Z)) := by
    clear e t1 t2 t3 hyz hr er hgw hM hN hNa hNb hY hZ
    generalize l * l * (g1 * g1 + g2 * g2 + g3 * g3) = T1 at *
    generalize μ * μ * (w1 * w1 + w2 * w2 + w3 * w3) = T2 at *
    generalize r * (2 * (Y * Z)) = T3 at *
    generalize Y * Y = YY at *
    generalize Z * Z = ZZ at *
    exact ⟨by grind, by grind⟩
  exact ⟨⟨by rw [e]; exact key.1, by grind⟩, by rw [e]; exact key.2⟩

/-- The same, for words. -/
theorem along_word {t : dVec} {g1 g2 g3 w1 w2 w3 N M l μ Y Z L : Rat} (hN0 : 1 / 5 ≤ N) (hN : Near (N * N) (g1 * g1 + g2 * g2 + g3 * g3) ((g1 * g1 + g2 * g2 + g3 * g3) * (41 / 100000000)))
    (hM0 : 88 / 10000 ≤ M) (hM : In (w1 * w1 + w2 * w2 + w3 * w3 - M * M) (M * M * (5 / 10000000))) (hgw : In (g1 * w1 + g2 * w2 + g3 * w3) (N * (14 / 1000000)))
    (hY : l * N = Y) (hZ : μ * M = Z) (hL1 : 1 / 4 ≤ L) (hL2 : L ≤ 5) (hYZ : In (Y * Y + Z * Z - L * L) (36 / 100000))
    (a1 : Ap t.1 (l * g1 + μ * w1) (5 / 1000000)) (a2 : Ap t.2.1 (l * g2 + μ * w2) (5 / 1000000)) (a3 : Ap t.2.2.1 (l * g3 + μ * w3) (5 / 1000000)) :
    ∃ F, g_i_LongOf t = some F ∧ fin .f32 F ∧ F < 2 ^ 32 ∧ In (R1 F - L) (97 / 10000) := by
  obtain ⟨up, lo⟩ := along_len hN0 hN hM0 hM hgw hY hZ hL1 hL2 hYZ
  obtain ⟨d1, e1, k1⟩ := near_err' a1.2
  obtain ⟨d2, e2, k2⟩ := near_err' a2.2
  obtain ⟨d3, e3, k3⟩ := near_err' a3.2
  have hd := (NB.of k1 k2 k3).mono (B := 87 / 10000000) (by decide +kernel)
  have ht := up.add hd
  have f1 : R1 t.1 = l * g1 + μ * w1 + d1 := e1
  have f2 : R1 t.2.1 = l * g2 + μ * w2 + d2 := e2
  have f3 : R1 t.2.2.1 = l * g3 + μ * w3 + d3 := e3
  rw [← f1, ← f2, ← f3] at ht
  obtain ⟨i1, i2, i3⟩ := (ht.mono (B := 10) (by grind)).comp
  obtain ⟨F, F1, F2, F3, F4, F5, F6, _⟩ := long_R ⟨a1.1, a2.1, a3.1⟩ i1 i2 i3 (by decide +kernel)
  refine ⟨F, F1, F2, F3, ?_⟩
  have hup := F6 _ ht
  have hb := F5.add hd.neg
  rw [f1, f2, f3] at hb
  have s : ∀ a d : Rat, a + d + -d = a := fun a d => by grind
  rw [s, s, s] at hb
  have hlow : L - 95 / 10000 ≤ R1 F * (1000001 / 1000000) + tin + 87 / 10000000 := le_of_sq hb.2 (Rat.le_trans lo hb.1)
  unfold tin at *
  exact ⟨by grind, by grind⟩

/-! ### words -/
theorem isPositive_R {a : Nat} (h : fin .f32 a) (h0 : 0 < R1 a) : t_i_isPositive a = true ∧ t_s_l04Length a = true := by
  have e : fgt .f32 a 0 = true := by rw [fgt_R h (zero_fin .f32), R_zero]; exact decide_eq_true h0
  constructor
  · unfold t_i_isPositive t_i_IsFinite
    rw [(finite_iff .f32 a).2 h, cond_t, e]
  · unfold t_s_l04Length t_s_l01Finite
    rw [(finite_iff .f32 a).2 h, cond_t, e]

theorem length_flags {m : Nat} (h : fin .f32 m) (h0 : 0 ≤ R1 m) : t_s_l04Length m = t_i_isLength m := by
  rw [isLength_R h]
  unfold t_s_l04Length t_s_l01Finite
  rw [(finite_iff .f32 m).2 h, cond_t, fgt_R h (zero_fin .f32), R_zero]
  by_cases hz : R1 m = 0
  · rw [decide_eq_false (by unfold R1 at hz; rw [hz]; decide), decide_eq_false (by simp [hz])]
  · rw [decide_eq_true hz]; exact decide_eq_true (by unfold R1 at *; grind)

/-- The words of two bones. -/
def tbU (g : dVec) (n : Nat) : dVec := t_i_Vector_over g n
def tbW (g p : dVec) (n : Nat) : dVec := t_i_LessVectors p (t_i_ScaleVector (tbU g n) (t_i_InnerOf p (tbU g n)))
def tbX (a b c : Nat) : Nat := fdiv .f32 (fadd .f32 (fsub .f32 (fmul .f32 a a) (fmul .f32 b b)) (fmul .f32 c c)) (fmul .f32 1073741824 c)
def tbH (a b c : Nat) : Nat := fsub .f32 (fmul .f32 a a) (fmul .f32 (tbX a b c) (tbX a b c))
def tbC (a b n : Nat) : Nat := bif fgt .f32 n (fadd .f32 a b) then fadd .f32 a b else n

/-- What the program's and the reference's functions do. -/
theorem tb_run {a b n m : Nat} {g p : dVec} (ha : t_i_isPositive a = true) (hb : t_i_isPositive b = true) (ha' : t_s_l04Length a = true) (hb' : t_s_l04Length b = true)
    (hg : g_i_LongOf g = some n) (hn : t_i_isLength n = true) (hn' : t_s_l04Length n = true) (hw : g_i_LongOf (tbW g p n) = some m) (hm : t_s_l04Length m = t_i_isLength m)
    {h : Nat} (hh : (bif fgt .f32 (tbH a b (tbC a b n)) 0 then g_i_RootNumber (tbH a b (tbC a b n)) else g_i_RootNumber 0) = some h) :
    g_i_TwoBones a b g p = some (bif t_i_isLength m then (t_i_AddVectors (t_i_ScaleVector (tbU g n) (tbX a b (tbC a b n))) (t_i_ScaleVector (t_i_Vector_over (tbW g p n) m) h), (t_i_ScaleVector (tbU g n) (tbC a b n), (true, ()))) else ((0, (0, (0, ()))), ((0, (0, (0, ()))), (false, ())))) ∧
    ∃ y, g_s_TwoBones a b g p = some y ∧ y.2.2.1 = t_i_isLength m := by
  have hgs : g_s_l01Long g = some n := by rw [← se_LongOf]; exact hg
  have hws : g_s_l01Long (tbW g p n) = some m := by rw [← se_LongOf]; exact hw
  unfold g_i_TwoBones g_s_TwoBones
  dsimp only
  rw [hg, opt_bind_some, hgs, opt_bind_some, ha, hb, hn, ha', hb', hn']
  simp only [bnot_t, cond_f]
  have hw1 : g_i_LongOf (t_i_LessVectors p (t_i_ScaleVector (t_i_Vector_over g n) (t_i_InnerOf p (t_i_Vector_over g n)))) = some m := hw
  have hw2 : g_s_l01Long (t_s_l01Less p (t_s_l01Scale ((fdiv .f32 g.1 n), ((fdiv .f32 g.2.1 n), ((fdiv .f32 g.2.2.1 n), ()))) (t_s_l01Inner p ((fdiv .f32 g.1 n), ((fdiv .f32 g.2.1 n), ((fdiv .f32 g.2.2.1 n), ())))))) = some m := hws
  rw [hw1, hw2]
  have root : ∀ x, g_s_l01Sqrt x = g_i_RootNumber x := fun x => (se_RootNumber x).symm
  simp only [root, opt_bind_some, hm]
  cases hc : fgt .f32 n (fadd .f32 a b)
  · have hC : tbC a b n = n := by unfold tbC; rw [hc]; rfl
    rw [hC] at hh
    rw [hC]
    cases hp : fgt .f32 (tbH a b n) 0
    · rw [hp, cond_f] at hh
      unfold tbH tbX at hp
      simp only [hp, cond_f, bnot_f, cond_t, hh, opt_bind_some]
      cases t_i_isLength m
      · exact ⟨rfl, _, rfl, rfl⟩
      · exact ⟨rfl, _, rfl, rfl⟩
    · rw [hp, cond_t] at hh
      unfold tbH tbX at hp hh
      simp only [hp, cond_f, bnot_t, cond_t, hh, opt_bind_some]
      cases t_i_isLength m
      · exact ⟨rfl, _, rfl, rfl⟩
      · exact ⟨rfl, _, rfl, rfl⟩
  · have hC : tbC a b n = fadd .f32 a b := by unfold tbC; rw [hc]; rfl
    rw [hC] at hh
    rw [hC]
    cases hp : fgt .f32 (tbH a b (fadd .f32 a b)) 0
    · rw [hp, cond_f] at hh
      unfold tbH tbX at hp
      simp only [hp, cond_f, bnot_f, cond_t, hh, opt_bind_some]
      cases t_i_isLength m
      · exact ⟨rfl, _, rfl, rfl⟩
      · exact ⟨rfl, _, rfl, rfl⟩
    · rw [hp, cond_t] at hh
      unfold tbH tbX at hp hh
      simp only [hp, cond_f, bnot_t, cond_t, hh, opt_bind_some]
      cases t_i_isLength m
      · exact ⟨rfl, _, rfl, rfl⟩
      · exact ⟨rfl, _, rfl, rfl⟩

/-! ### numbers of two bones -/
/-- A length of quarters. -/
structure Leg (a : Nat) : Prop where
  isF : fin .f32 a
  lt : a < 2 ^ 32
  ev : ∃ k : Int, Ev a k 2 20
  lo : 1 / 4 ≤ R1 a
  hi : R1 a ≤ 5

theorem leg_of {k : Nat} (h : k < 20) : Leg (fdiv .f32 (fofInt .f32 (iadd .i64 1 (k : Int))) 1082130432) := by
  obtain ⟨s1, s2⟩ := step_tab k (by omega)
  have hs : Ev (fdiv .f32 (fofInt .f32 (iadd .i64 1 (k : Int))) 1082130432) ((k : Int) + 1) 2 20 := Ev.ofZ ((fin_dec _ _).2 s1) (by rw [s2]) (by omega) (by omega)
  have e := hs.R2
  have k0 : (0 : Rat) ≤ (k : Rat) := Rat.natCast_nonneg
  have k1 : (k : Rat) ≤ ((19 : Nat) : Rat) := Rat.natCast_le_natCast.2 (by omega)
  have e19 : ((19 : Nat) : Rat) = 19 := rfl
  have e1 : ((1 : Int) : Rat) = 1 := rfl
  rw [Rat.intCast_add, Rat.intCast_natCast, e1] at e
  rw [e19] at k1
  exact ⟨hs.1, (fdiv_okF _ _ _).lt32, ⟨_, hs⟩, by rw [e]; grind, by rw [e]; grind⟩

theorem Leg.sq {a : Nat} (h : Leg a) : ∃ k : Int, Ev (fmul .f32 a a) k 4 400 ∧ R1 (fmul .f32 a a) = R1 a * R1 a := by
  obtain ⟨k, hk⟩ := h.ev
  have hm := hk.mul hk (by decide) (by decide)
  refine ⟨_, hm, ?_⟩
  have e := Ev.R4 hm
  rw [e, hk.R2, Rat.intCast_mul]; grind

theorem Leg.sum {a b : Nat} (ha : Leg a) (hb : Leg b) : fin .f32 (fadd .f32 a b) ∧ R1 (fadd .f32 a b) = R1 a + R1 b := by
  obtain ⟨k, hk⟩ := ha.ev
  obtain ⟨l, hl⟩ := hb.ev
  have hm := hk.add hl (by decide) (by decide)
  exact ⟨hm.1, by rw [hm.R2, hk.R2, hl.R2, Rat.intCast_add]; grind⟩

/-- The place along the goal, as it is computed. -/
theorem tbX_R {a b c : Nat} (ha : Leg a) (hb : Leg b) (hc : fin .f32 c) (c0 : 24 / 100 ≤ R1 c) (c1 : R1 c ≤ 10) : fin .f32 (tbX a b c) ∧ In (R1 (tbX a b c)) 300 ∧
    ∀ X0 : Rat, X0 * (2 * R1 c) = R1 a * R1 a - R1 b * R1 b + R1 c * R1 c → R1 c ≤ 7 → In X0 5 → In (R1 (tbX a b c) - X0) (17 / 1000000) := by
  obtain ⟨ka, ea, ra⟩ := ha.sq
  obtain ⟨kb, eb, rb⟩ := hb.sq
  have hd := ea.sub eb (by decide) (by decide)
  have rd : R1 (fsub .f32 (fmul .f32 a a) (fmul .f32 b b)) = R1 a * R1 a - R1 b * R1 b := by
    have e := Ev.R4 hd
    rw [e, ← ra, ← rb, Ev.R4 ea, Ev.R4 eb, Rat.intCast_sub]; grind
  have fd := hd.1
  have cin : In (R1 c) (R1 c) := ⟨by grind, by grind⟩
  have cin10 : In (R1 c) 10 := ⟨by grind, c1⟩
  have a5 := sq_le (a := R1 a) (b := 5) (by have := ha.lo; grind) ha.hi
  have b5 := sq_le (a := R1 b) (b := 5) (by have := hb.lo; grind) hb.hi
  have a0 := sq_nn (R1 a); have b0 := sq_nn (R1 b); have cc0 := sq_nn (R1 c)
  have din : In (R1 a * R1 a - R1 b * R1 b) 25 := ⟨by grind, by grind⟩
  have ccin : R1 c * R1 c ≤ 100 := by have := (cin10.mul cin10).2; grind
  have hcc := ((Ap.self hc).mul (Ap.self hc) cin cin (M := R1 c * R1 c) ⟨by grind, by grind⟩ (by unfold big32; grind)).mono (f := R1 c * R1 c * (1001 / 1000 * u32)) (by
    have : (576 : Rat) / 10000 ≤ R1 c * R1 c := by have := sq_le (a := 24 / 100) (b := R1 c) (by decide +kernel) c0; grind
    unfold u32 e32; grind)
  have hd' : Ap (fsub .f32 (fmul .f32 a a) (fmul .f32 b b)) (R1 a * R1 a - R1 b * R1 b) 0 := ⟨fd, by
    have e : R .f32 (fsub .f32 (fmul .f32 a a) (fmul .f32 b b)) = R1 a * R1 a - R1 b * R1 b := rd
    rw [e]; exact Near.refl (by decide)⟩
  have hs := (hd'.add hcc (M := 25 + R1 c * R1 c) ⟨by have := din.1; grind, by have := din.2; grind⟩ (by unfold big32 u32; grind)).mono (f := (25 + 2 * (R1 c * R1 c)) * (1002 / 1000 * u32)) (by unfold u32; grind)
  obtain ⟨t1, t2⟩ := double_E hc (cin10.mono (by unfold big32; decide +kernel))
  have two : fin .f32 1073741824 ∧ R .f32 1073741824 = 2 := ⟨(fin_dec _ _).2 (by decide +kernel), by decide +kernel⟩
  obtain ⟨d1, d2⟩ := mul_E two.1 hc t1 (by rw [t2, two.2]; grind)
  rw [two.2] at d2
  have d2' : R1 (fmul .f32 1073741824 c) = 2 * R1 c := d2
  have dn0 : R1 (fmul .f32 1073741824 c) ≠ 0 := by rw [d2']; grind
  -- the quotient
  have hq := div_mul (a := R1 (fadd .f32 (fsub .f32 (fmul .f32 a a) (fmul .f32 b b)) (fmul .f32 c c))) dn0
  have sn := hs.2.1
  have sx := hs.2.2
  have hqin : In (R1 (fadd .f32 (fsub .f32 (fmul .f32 a a) (fmul .f32 b b)) (fmul .f32 c c)) / R1 (fmul .f32 1073741824 c)) 280 := by
    refine In.cancel (c := R1 (fmul .f32 1073741824 c)) (by rw [d2']; grind) ?_
    rw [hq, d2']
    have := din.1; have := din.2
    unfold R1 u32 at *
    exact ⟨by grind, by grind⟩
  obtain ⟨f1, f2⟩ := quot_R hs.1 d1 dn0 hqin (by decide +kernel)
  refine ⟨f1, ?_, ?_⟩
  · have h1 : In (R1 (tbX a b c)) (280 + (8 / 5 * 280 * u32 + e32)) := hqin.near f2
    exact h1.mono (by decide +kernel)
  · intro X0 hX hc7 hX5
    have cc7 : R1 c * R1 c ≤ 49 := by have := sq_le (a := R1 c) (b := 7) (by grind) hc7; grind
    have hdiff : In (R1 (fadd .f32 (fsub .f32 (fmul .f32 a a) (fmul .f32 b b)) (fmul .f32 c c)) / R1 (fmul .f32 1073741824 c) - X0) (158 / 10000000) := by
      refine In.cancel (c := R1 (fmul .f32 1073741824 c)) (by rw [d2']; grind) ?_
      rw [show (R1 (fadd .f32 (fsub .f32 (fmul .f32 a a) (fmul .f32 b b)) (fmul .f32 c c)) / R1 (fmul .f32 1073741824 c) - X0) * R1 (fmul .f32 1073741824 c) = R1 (fadd .f32 (fsub .f32 (fmul .f32 a a) (fmul .f32 b b)) (fmul .f32 c c)) / R1 (fmul .f32 1073741824 c) * R1 (fmul .f32 1073741824 c) - X0 * R1 (fmul .f32 1073741824 c) by grind, hq, d2', hX]
      unfold R1 u32 at *
      exact ⟨by grind, by grind⟩
    have hq5 : In (R1 (fadd .f32 (fsub .f32 (fmul .f32 a a) (fmul .f32 b b)) (fmul .f32 c c)) / R1 (fmul .f32 1073741824 c)) (51 / 10) := ⟨by have := hdiff.1; have := hX5.1; grind, by have := hdiff.2; have := hX5.2; grind⟩
    obtain ⟨_, f3⟩ := quot_R hs.1 d1 dn0 hq5 (by decide +kernel)
    have f4 : Near (R1 (tbX a b c)) _ _ := f3
    have := f4.1; have := f4.2; have := hdiff.1; have := hdiff.2
    unfold u32 e32 at *
    exact ⟨by grind, by grind⟩

/-- The square of the height, as it is computed. -/
theorem tbH_R {a b c : Nat} (ha : Leg a) (hx : fin .f32 (tbX a b c)) (hx3 : In (R1 (tbX a b c)) 300) : fin .f32 (tbH a b c) ∧ R1 (tbH a b c) ≤ 1000000 ∧
    ∀ X0 : Rat, In X0 5 → In (R1 (tbX a b c) - X0) (17 / 1000000) → In (R1 (tbH a b c) - (R1 a * R1 a - X0 * X0)) (176 / 1000000) := by
  obtain ⟨ka, ea, ra⟩ := ha.sq
  have a5 := sq_le (a := R1 a) (b := 5) (by have := ha.lo; grind) ha.hi
  have a0 := sq_nn (R1 a)
  have ha' : Ap (fmul .f32 a a) (R1 a * R1 a) 0 := ⟨ea.1, by
    have e : R .f32 (fmul .f32 a a) = R1 a * R1 a := ra
    rw [e]; exact Near.refl (by decide)⟩
  have x0 := sq_nn (R1 (tbX a b c))
  have x9 := (hx3.mul hx3).2
  have hxx := (Ap.self hx).mul (Ap.self hx) hx3 hx3 (M := R1 (tbX a b c) * R1 (tbX a b c)) ⟨by grind, by grind⟩ (by unfold big32; grind)
  have hs := ha'.sub hxx (M := 25 + R1 (tbX a b c) * R1 (tbX a b c)) ⟨by grind, by grind⟩ (by unfold big32 u32 e32; grind)
  refine ⟨hs.1, ?_, ?_⟩
  · have h1 : R1 (tbH a b c) ≤ _ := hs.2.2
    unfold u32 e32 at *
    grind
  · intro X0 hX hd
    have h1 : R1 (tbH a b c) ≤ _ := hs.2.2
    have h2 : _ ≤ R1 (tbH a b c) := hs.2.1
    have hsum : In (R1 (tbX a b c) + X0) (1000002 / 100000) := ⟨by have := hd.1; have := hX.1; grind, by have := hd.2; have := hX.2; grind⟩
    have hdd := hd.mul hsum
    rw [show (R1 (tbX a b c) - X0) * (R1 (tbX a b c) + X0) = R1 (tbX a b c) * R1 (tbX a b c) - X0 * X0 by grind] at hdd
    have X25 := (hX.mul hX).2
    have X00 := sq_nn X0
    have := hdd.1; have := hdd.2
    generalize R1 (tbX a b c) * R1 (tbX a b c) = XX at *
    generalize X0 * X0 = X2 at *
    generalize R1 a * R1 a = AA at *
    unfold u32 e32 at *
    exact ⟨by grind, by grind⟩

theorem root_zero : g_i_RootNumber 0 = some 0 := by decide +kernel

/-- The height. -/
theorem height_R {a b c : Nat} (hf : fin .f32 (tbH a b c)) (hb : R1 (tbH a b c) ≤ 1000000) : ∃ h, (bif fgt .f32 (tbH a b c) 0 then g_i_RootNumber (tbH a b c) else g_i_RootNumber 0) = some h ∧ fin .f32 h ∧ h < 2 ^ 32 ∧ 0 ≤ R1 h ∧
    ∀ H0 : Rat, 0 ≤ H0 → H0 ≤ 26 → In (R1 (tbH a b c) - H0) (176 / 1000000) → In (R1 h * R1 h - H0) (18 / 100000) := by
  cases hp : fgt .f32 (tbH a b c) 0
  · refine ⟨0, root_zero, zero_fin .f32, by decide, by rw [R1_zero]; decide, fun H0 h0 _ hd => ?_⟩
    rw [fgt_R hf (zero_fin .f32), R_zero] at hp
    have := Rat.not_lt.1 (of_decide_eq_false hp)
    have h1 := hd.1
    rw [R1_zero]
    unfold R1 at *
    exact ⟨by grind, by grind⟩
  · rw [fgt_R hf (zero_fin .f32), R_zero] at hp
    have hpos := of_decide_eq_true hp
    obtain ⟨r, r1, r2, r3, r4⟩ := root_R (x := tbH a b c) (fsub_okF _ _ _).lt32 hf (Rat.le_of_lt hpos) (by unfold R1 at hb; grind)
    refine ⟨r, ?_, r2, (fconv_okF (mathsqrt_okF _).1 r1).lt32, r3, fun H0 h0 h26 hd => ?_⟩
    · rw [cond_t]
      unfold g_i_RootNumber
      show Option.bind (fconv .f64 .f32 (t_mathsqrt (fwide _))) _ = _
      rw [r1]; rfl
    · have := r4.1; have := r4.2; have := hd.1; have := hd.2
      unfold R1 at *
      exact ⟨by grind, by grind⟩

theorem over_R {g : dVec} {n : Nat} (hg : finV g) (hn : fin .f32 n) (h0 : 0 < R1 n) (hb : NB (R1 g.1) (R1 g.2.1) (R1 g.2.2.1) (R1 n * (100001 / 100000))) :
    Ap (t_i_Vector_over g n).1 (R1 g.1 / R1 n) (1 / 10000000) ∧ Ap (t_i_Vector_over g n).2.1 (R1 g.2.1 / R1 n) (1 / 10000000) ∧ Ap (t_i_Vector_over g n).2.2.1 (R1 g.2.2.1 / R1 n) (1 / 10000000) ∧
    In (R1 g.1 / R1 n) (100001 / 100000) ∧ In (R1 g.2.1 / R1 n) (100001 / 100000) ∧ In (R1 g.2.2.1 / R1 n) (100001 / 100000) := by
  have hn0 : R1 n ≠ 0 := by grind
  obtain ⟨c1, c2, c3⟩ := hb.comp
  have f : ∀ {x : Nat}, fin .f32 x → In (R1 x) (R1 n * (100001 / 100000)) → Ap (fdiv .f32 x n) (R1 x / R1 n) (1 / 10000000) ∧ In (R1 x / R1 n) (100001 / 100000) := fun hx hi => by
    have hq : In (R1 _ / R1 n) (100001 / 100000) := In.cancel h0 (by rw [div_mul hn0]; exact hi.mono (by grind))
    obtain ⟨a, b⟩ := quot_R hx hn hn0 hq (by decide +kernel)
    exact ⟨⟨a, b.mono (by decide +kernel)⟩, hq⟩
  obtain ⟨a1, b1⟩ := f hg.1 c1
  obtain ⟨a2, b2⟩ := f hg.2.1 c2
  obtain ⟨a3, b3⟩ := f hg.2.2 c3
  exact ⟨a1, a2, a3, b1, b2, b3⟩

/-- The part of the pole across the goal, as it is computed. -/
theorem tbW_R {g p : dVec} {n : Nat} (hg : QV g) (hp : QV p) (hn : fin .f32 n) (n0 : 1 / 5 ≤ R1 n) (hb : NB (R1 g.1) (R1 g.2.1) (R1 g.2.2.1) (R1 n * (100001 / 100000))) {κ : Rat} (hκ : κ * (R1 n * R1 n) = R1 p.1 * R1 g.1 + R1 p.2.1 * R1 g.2.1 + R1 p.2.2.1 * R1 g.2.2.1) :
    Ap (tbW g p n).1 (R1 p.1 - R1 g.1 * κ) (6 / 1000000) ∧ Ap (tbW g p n).2.1 (R1 p.2.1 - R1 g.2.1 * κ) (6 / 1000000) ∧ Ap (tbW g p n).2.2.1 (R1 p.2.2.1 - R1 g.2.2.1 * κ) (6 / 1000000) ∧
    (In (R1 (tbW g p n).1) 13 ∧ In (R1 (tbW g p n).2.1) 13 ∧ In (R1 (tbW g p n).2.2.1) 13) := by
  obtain ⟨gf, _, _, _⟩ := hg.R
  obtain ⟨pf, p1, p2, p3⟩ := hp.R
  have np : 0 < R1 n := by grind
  have hn0 : R1 n ≠ 0 := by grind
  obtain ⟨u1, u2, u3, i1, i2, i3⟩ := over_R gf hn np hb
  -- the inner product with the direction
  have m1 := ((Ap.self pf.1).mul u1 p1 i1 ((p1.mul i1).mono (N := 5) (by decide +kernel)) (by decide +kernel)).mono (f := 71 / 100000000) (by decide +kernel)
  have m2 := ((Ap.self pf.2.1).mul u2 p2 i2 ((p2.mul i2).mono (N := 5) (by decide +kernel)) (by decide +kernel)).mono (f := 71 / 100000000) (by decide +kernel)
  have m3 := ((Ap.self pf.2.2).mul u3 p3 i3 ((p3.mul i3).mono (N := 5) (by decide +kernel)) (by decide +kernel)).mono (f := 71 / 100000000) (by decide +kernel)
  have k1 := (p1.mul i1).mono (N := 401 / 100) (by decide +kernel)
  have k2 := (p2.mul i2).mono (N := 401 / 100) (by decide +kernel)
  have k3 := (p3.mul i3).mono (N := 401 / 100) (by decide +kernel)
  have s1 := (m1.add m2 (k1.add k2) (by decide +kernel)).mono (f := 191 / 100000000) (by decide +kernel)
  have hκN : R1 p.1 * (R1 g.1 / R1 n) + R1 p.2.1 * (R1 g.2.1 / R1 n) + R1 p.2.2.1 * (R1 g.2.2.1 / R1 n) = κ * R1 n := by
    refine eq_of_mul np ?_
    rw [show κ * R1 n * R1 n = κ * (R1 n * R1 n) by grind, hκ]
    have e1 := div_mul (a := R1 g.1) hn0; have e2 := div_mul (a := R1 g.2.1) hn0; have e3 := div_mul (a := R1 g.2.2.1) hn0
    generalize R1 g.1 / R1 n = q1 at *
    generalize R1 g.2.1 / R1 n = q2 at *
    generalize R1 g.2.2.1 / R1 n = q3 at *
    rw [← e1, ← e2, ← e3]; grind
  have hκin : In (κ * R1 n) 7 := by
    have hnb : NB (R1 p.1) (R1 p.2.1) (R1 p.2.2.1) (69284 / 10000) := (NB.of p1 p2 p3).mono (by decide +kernel)
    have := hnb.inner hb
    refine In.cancel np ?_
    rw [show κ * R1 n * R1 n = κ * (R1 n * R1 n) by grind, hκ]
    exact this.mono (by grind)
  have s2 := (s1.add m3 (by rw [hκN]; exact hκin) (by decide +kernel)).mono (f := 31 / 10000000) (by decide +kernel)
  rw [hκN] at s2
  have part : ∀ {x u : Nat} {q : Rat}, fin .f32 x → In (R1 x) 4 → Ap u (q / R1 n) (1 / 10000000) → In (q / R1 n) (100001 / 100000) → Ap (fsub .f32 x (fmul .f32 u (t_i_InnerOf p (tbU g n)))) (R1 x - q * κ) (6 / 1000000) ∧ In (R1 (fsub .f32 x (fmul .f32 u (t_i_InnerOf p (tbU g n))))) 13 := by
    intro x u q hx ix hu iu
    have e : q / R1 n * (κ * R1 n) = q * κ := by
      have := div_mul (a := q) hn0
      rw [show q / R1 n * (κ * R1 n) = q / R1 n * R1 n * κ by grind, this]
    have mm := (hu.mul s2 iu hκin ((iu.mul hκin).mono (N := 71 / 10) (by decide +kernel)) (by decide +kernel)).mono (f := 43 / 10000000) (by decide +kernel)
    rw [e] at mm
    have hqk : In (q * κ) (71 / 10) := by rw [← e]; exact (iu.mul hκin).mono (by decide +kernel)
    have ss := ((Ap.self hx).sub mm (ix.sub hqk) (by decide +kernel)).mono (f := 6 / 1000000) (by decide +kernel)
    exact ⟨ss, (ss.inn (ix.sub hqk)).mono (by decide +kernel)⟩
  obtain ⟨a1, b1⟩ := part pf.1 p1 u1 i1
  obtain ⟨a2, b2⟩ := part pf.2.1 p2 u2 i2
  obtain ⟨a3, b3⟩ := part pf.2.2 p3 u3 i3
  exact ⟨a1, a2, a3, b1, b2, b3⟩

theorem cross64 {x y z w : Nat} (hx : Quart x) (hy : Quart y) (hz : Quart z) (hw : Quart w) : fin .f64 (fsub .f64 (fmul .f64 (fwide x) (fwide y)) (fmul .f64 (fwide z) (fwide w))) ∧ R .f64 (fsub .f64 (fmul .f64 (fwide x) (fwide y)) (fmul .f64 (fwide z) (fwide w))) = R1 x * R1 y - R1 z * R1 w ∧
    (R1 x * R1 y - R1 z * R1 w = 0 ∨ 1 / 256 ≤ (R1 x * R1 y - R1 z * R1 w) * (R1 x * R1 y - R1 z * R1 w)) := by
  obtain ⟨ox, a, ha, _⟩ := hx
  obtain ⟨oy, b, hb, _⟩ := hy
  obtain ⟨oz, c, hc, _⟩ := hz
  obtain ⟨ow, d, hd, _⟩ := hw
  obtain ⟨x1, x2⟩ := wide_R ox.lt32 ha.1
  obtain ⟨y1, y2⟩ := wide_R oy.lt32 hb.1
  obtain ⟨z1, z2⟩ := wide_R oz.lt32 hc.1
  obtain ⟨w1, w2⟩ := wide_R ow.lt32 hd.1
  have a16 := ha.2.2; have b16 := hb.2.2; have c16 := hc.2.2; have d16 := hd.2.2
  have pab : (a * b).natAbs ≤ 256 := by rw [Int.natAbs_mul]; exact Nat.mul_le_mul a16 b16
  have pcd : (c * d).natAbs ≤ 256 := by rw [Int.natAbs_mul]; exact Nat.mul_le_mul c16 d16
  have hB : 2 * FloatKind.f64.format.binade = 9007199254740992 := rfl
  have e4 : Fw.w2 (-4) = 1 / 16 := by decide +kernel
  obtain ⟨s, s1, s2⟩ := rep_R .f64 (a * b) (-4) (by omega) (by decide) (by decide)
  obtain ⟨t, t1, t2⟩ := rep_R .f64 (c * d) (-4) (by omega) (by decide) (by decide)
  obtain ⟨r, r1, r2⟩ := rep_R .f64 (a * b - c * d) (-4) (by omega) (by decide) (by decide)
  rw [e4, Rat.intCast_mul] at s2 t2
  rw [e4, Rat.intCast_sub, Rat.intCast_mul, Rat.intCast_mul] at r2
  have ra := ha.R2; have rb := hb.R2; have rc := hc.R2; have rd := hd.R2
  obtain ⟨m1, m2⟩ := mul_E x1 y1 s1 (by rw [x2, y2, s2]; unfold R1 at ra rb; rw [ra, rb]; grind)
  obtain ⟨n1, n2⟩ := mul_E z1 w1 t1 (by rw [z2, w2, t2]; unfold R1 at rc rd; rw [rc, rd]; grind)
  obtain ⟨q1, q2⟩ := sub_E m1 n1 r1 (by rw [m2, n2, x2, y2, z2, w2, r2]; unfold R1 at ra rb rc rd; rw [ra, rb, rc, rd]; grind)
  refine ⟨q1, by rw [q2, m2, n2, x2, y2, z2, w2], ?_⟩
  rw [ra, rb, rc, rd]
  by_cases h0 : a * b - c * d = 0
  · left
    have : ((a * b - c * d : Int) : Rat) = ((0 : Int) : Rat) := by rw [h0]
    have e0 : ((0 : Int) : Rat) = 0 := rfl
    rw [Rat.intCast_sub, Rat.intCast_mul, Rat.intCast_mul, e0] at this
    grind
  · right
    have h1 : (1 : Int) ≤ (a * b - c * d) * (a * b - c * d) := by
      rcases Int.lt_or_gt_of_ne h0 with h | h
      · exact Int.mul_pos_of_neg_of_neg h h
      · exact Int.mul_pos h h
    have h2 := Rat.intCast_le_intCast.2 h1
    rw [Rat.intCast_mul, Rat.intCast_sub, Rat.intCast_mul, Rat.intCast_mul] at h2
    have e1 : ((1 : Int) : Rat) = 1 := rfl
    rw [e1] at h2
    grind

/-- Not along one line. -/
theorem along_R {g p : dVec} (hg : QV g) (hp : QV p) (h : t_w_r8Along g p = false) :
    1 / 256 ≤ (R1 p.2.1 * R1 g.2.2.1 - R1 p.2.2.1 * R1 g.2.1) * (R1 p.2.1 * R1 g.2.2.1 - R1 p.2.2.1 * R1 g.2.1) + (R1 p.2.2.1 * R1 g.1 - R1 p.1 * R1 g.2.2.1) * (R1 p.2.2.1 * R1 g.1 - R1 p.1 * R1 g.2.2.1) + (R1 p.1 * R1 g.2.1 - R1 p.2.1 * R1 g.1) * (R1 p.1 * R1 g.2.1 - R1 p.2.1 * R1 g.1) := by
  obtain ⟨a1, a2, a3⟩ := cross64 hg.2.1 hp.2.2 hg.2.2 hp.2.1
  obtain ⟨b1, b2, b3⟩ := cross64 hg.2.2 hp.1 hg.1 hp.2.2
  obtain ⟨c1, c2, c3⟩ := cross64 hg.1 hp.2.1 hg.2.1 hp.1
  have q1 := sq_nn (R1 p.2.1 * R1 g.2.2.1 - R1 p.2.2.1 * R1 g.2.1); have q2 := sq_nn (R1 p.2.2.1 * R1 g.1 - R1 p.1 * R1 g.2.2.1); have q3 := sq_nn (R1 p.1 * R1 g.2.1 - R1 p.2.1 * R1 g.1)
  rcases a3 with a3 | a3
  · rcases b3 with b3 | b3
    · rcases c3 with c3 | c3
      · exfalso
        have z := zero_fin .f64
        unfold t_w_r8Along at h
        rw [feq_R a1 z, a2, R_zero, decide_eq_true a3, cond_t, feq_R b1 z, b2, R_zero, decide_eq_true b3, cond_t, feq_R c1 z, c2, R_zero, decide_eq_true c3] at h
        cases h
      · clear a2 b2 c2 h; grind
    · clear a2 b2 c2 h; grind
  · clear a2 b2 c2 h; grind

theorem two64w : fin .f64 4611686018427387904 ∧ R .f64 4611686018427387904 = 2 := ⟨fin64_dec (by decide +kernel), by decide +kernel⟩

/-- Whether two legs reach. -/
theorem reach_R {a b c : Nat} (ha : Leg a) (hb : Leg b) (hc : fin .f32 c) (lc : c < 2 ^ 32) : ∃ y, g_i_CanReach [a, b] c = some y ∧ (y = true → In (R1 a - R1 b) (R1 c)) := by
  obtain ⟨wa1, wa2⟩ := wide_R ha.lt ha.isF
  obtain ⟨wb1, wb2⟩ := wide_R hb.lt hb.isF
  obtain ⟨wc1, wc2⟩ := wide_R lc hc
  have fa : t_i_IsFinite a = true := (finite_iff .f32 a).2 ha.isF
  have fb : t_i_IsFinite b = true := (finite_iff .f32 b).2 hb.isF
  have fc : t_i_IsFinite c = true := (finite_iff .f32 c).2 hc
  have na : flt .f32 a 0 = false := by
    rw [flt_R ha.isF (zero_fin .f32), R_zero]
    have := ha.lo
    unfold R1 at this
    exact decide_eq_false (by grind)
  have nb : flt .f32 b 0 = false := by
    rw [flt_R hb.isF (zero_fin .f32), R_zero]
    have := hb.lo
    unfold R1 at this
    exact decide_eq_false (by grind)
  have hrun : g_i_CanReach [a, b] c = some (bif (fge .f64 (fwide c) (fmax .f64 (fsub .f64 (fmul .f64 4611686018427387904 (fmax .f64 (fmax .f64 0 (fwide a)) (fwide b))) (fadd .f64 (fadd .f64 0 (fwide a)) (fwide b))) 0)) then fle .f64 (fwide c) (fadd .f64 (fadd .f64 0 (fwide a)) (fwide b)) else false) := by
    unfold g_i_CanReach
    show (bif ilt 2 1 then _ else bif ilt 16 2 then _ else bif (!(t_i_IsFinite c)) then _ else Option.bind (iter L_i_CanReach_1 fuel ((c, (false, (0, (0, ([a, b], (2, (0, ()))))))), ())) _) = _
    rw [show ilt 2 1 = false by decide, cond_f, show ilt 16 2 = false by decide, cond_f, fc, bnot_t, cond_f]
    obtain ⟨f, hf⟩ : ∃ f, fuel = f + 3 := ⟨fuel - 3, by unfold fuel; omega⟩
    rw [hf, iter_succ]
    simp only [L_i_CanReach_1]
    rw [show ilt 0 2 = true by decide, cond_t, show ix 0 [a, b].length = some 0 from rfl, opt_bind_some]
    simp only [List.getD_cons_zero]
    rw [fa, bnot_t, cond_f, na, cond_f, iter_succ]
    simp only [L_i_CanReach_1]
    rw [show iadd .i64 0 1 = 1 by decide, show ilt 1 2 = true by decide, cond_t, show ix 1 [a, b].length = some 1 from rfl, opt_bind_some]
    simp only [List.getD_cons_succ, List.getD_cons_zero]
    rw [fb, bnot_t, cond_f, nb, cond_f, iter_succ]
    simp only [L_i_CanReach_1]
    rw [show iadd .i64 1 1 = 2 by decide, show ilt 2 2 = false by decide, cond_f, opt_bind_some]
    dsimp only
    rw [cond_f]
    cases fge .f64 (fwide c) (fmax .f64 (fsub .f64 (fmul .f64 4611686018427387904 (fmax .f64 (fmax .f64 0 (fwide a)) (fwide b))) (fadd .f64 (fadd .f64 0 (fwide a)) (fwide b))) 0) <;> rfl
  refine ⟨_, hrun, fun h => ?_⟩
  have hge : fge .f64 (fwide c) (fmax .f64 (fsub .f64 (fmul .f64 4611686018427387904 (fmax .f64 (fmax .f64 0 (fwide a)) (fwide b))) (fadd .f64 (fadd .f64 0 (fwide a)) (fwide b))) 0) = true := by
    cases hh : fge .f64 (fwide c) (fmax .f64 (fsub .f64 (fmul .f64 4611686018427387904 (fmax .f64 (fmax .f64 0 (fwide a)) (fwide b))) (fadd .f64 (fadd .f64 0 (fwide a)) (fwide b))) 0)
    · rw [hh] at h; cases h
    · rfl
  -- the sum
  obtain ⟨s1, s2⟩ := add_E (zero_fin .f64) wa1 wa1 (by rw [R_zero]; grind)
  obtain ⟨hs, hsR⟩ := ha.sum hb
  obtain ⟨v1, v2⟩ := wide_R (fadd_okF .f32 a b).lt32 hs
  obtain ⟨s3, s4⟩ := add_E s1 wb1 v1 (by rw [s2, R_zero, wa2, wb2, v2]; unfold R1 at hsR; rw [hsR]; grind)
  have s5 : R .f64 (fadd .f64 (fadd .f64 0 (fwide a)) (fwide b)) = R1 a + R1 b := by rw [s4, s2, R_zero, wa2, wb2]; unfold R1; grind
  -- the greater one
  have hA := ha.lo; have hB := hb.lo
  obtain ⟨g1, g2⟩ := fmax_R (zero_fin .f64) wa1
  have g3 : R .f64 (fmax .f64 0 (fwide a)) = R1 a := by
    rw [R_zero, wa2] at g2
    rcases g2 with ⟨e, h2⟩ | ⟨e, _⟩
    · unfold R1 at hA; exact absurd h2 (by grind)
    · exact e
  obtain ⟨g4, g5⟩ := fmax_R g1 wb1
  rw [g3, wb2] at g5
  generalize fmax .f64 (fmax .f64 0 (fwide a)) (fwide b) = G at *
  generalize fadd .f64 (fadd .f64 0 (fwide a)) (fwide b) = Sm' at *
  obtain ⟨ka, eka⟩ := ha.ev
  obtain ⟨kb, ekb⟩ := hb.ev
  have dab := eka.sub ekb (by decide) (by decide)
  have dba := ekb.sub eka (by decide) (by decide)
  have rab : R1 (fsub .f32 a b) = R1 a - R1 b := by rw [dab.R2, eka.R2, ekb.R2, Rat.intCast_sub]; grind
  have rba : R1 (fsub .f32 b a) = R1 b - R1 a := by rw [dba.R2, eka.R2, ekb.R2, Rat.intCast_sub]; grind
  obtain ⟨haa, haaR⟩ := ha.sum ha
  obtain ⟨hbb, hbbR⟩ := hb.sum hb
  have core : ∀ {t d : Nat} {T D : Rat}, fin .f64 t → R .f64 t = 2 * T → R .f64 G = T → fin .f64 d → R .f64 d = 2 * T - (R1 a + R1 b) → R .f64 (fsub .f64 (fmul .f64 4611686018427387904 G) Sm') = 2 * T - (R1 a + R1 b) ∧ fin .f64 (fsub .f64 (fmul .f64 4611686018427387904 G) Sm') := fun ht hT hG hd hD => by
    obtain ⟨m1, m2⟩ := mul_E two64w.1 g4 ht (by rw [two64w.2, hG, hT])
    obtain ⟨n1, n2⟩ := sub_E m1 s3 hd (by rw [m2, two64w.2, hG, s5, hD])
    exact ⟨by rw [n2, m2, two64w.2, hG, s5], n1⟩
  have fin2 : ∀ {T : Rat}, R .f64 (fsub .f64 (fmul .f64 4611686018427387904 G) Sm') = T → fin .f64 (fsub .f64 (fmul .f64 4611686018427387904 G) Sm') → T ≤ R1 c := fun hT hf => by
    obtain ⟨k1, k2⟩ := fmax_R hf (zero_fin .f64)
    rw [fge_R wc1 k1, wc2] at hge
    have h3 := of_decide_eq_true hge
    unfold R1
    rcases k2 with ⟨e, _⟩ | ⟨e, h4⟩
    · rw [e, hT] at h3; exact h3
    · rw [e] at h3
      rw [hT] at h4
      exact Rat.le_trans h4 h3
  rcases g5 with ⟨e, hle⟩ | ⟨e, hle⟩
  · obtain ⟨t1, t2⟩ := wide_R (fadd_okF .f32 a a).lt32 haa
    obtain ⟨d1, d2⟩ := wide_R (fsub_okF .f32 a b).lt32 dab.1
    obtain ⟨c1, c2⟩ := core (T := R1 a) (D := 0) t1 (by rw [t2]; unfold R1 at haaR; rw [haaR]; unfold R1; grind) e d1 (by rw [d2]; unfold R1 at rab; rw [rab]; unfold R1; grind)
    have := fin2 c1 c2
    unfold R1 at *
    exact ⟨by grind, by grind⟩
  · obtain ⟨t1, t2⟩ := wide_R (fadd_okF .f32 b b).lt32 hbb
    obtain ⟨d1, d2⟩ := wide_R (fsub_okF .f32 b a).lt32 dba.1
    obtain ⟨c1, c2⟩ := core (T := R1 b) (D := 0) t1 (by rw [t2]; unfold R1 at hbbR; rw [hbbR]; unfold R1; grind) e d1 (by rw [d2]; unfold R1 at rba; rw [rba]; unfold R1; grind)
    have := fin2 c1 c2
    unfold R1 at *
    exact ⟨by grind, by grind⟩

theorem tol3 : fin .f64 4562254508917369340 ∧ Near (R .f64 4562254508917369340) (1 / 1000) (1 / 1000000000) := ⟨fin64_dec (by decide +kernel), by constructor <;> decide +kernel⟩
theorem tol2 : fin .f64 4576918229304087675 ∧ Near (R .f64 4576918229304087675) (1 / 100) (1 / 1000000000) := ⟨fin64_dec (by decide +kernel), by constructor <;> decide +kernel⟩

section core
variable {g p : dVec} {a b n m c h : Nat}

/-- The end: its distance and its direction. -/
theorem tb_far (hg : QV g) (hn : fin .f32 n) (ln : n < 2 ^ 32) (n0 : 1 / 5 ≤ R1 n) (n7 : R1 n ≤ 7) (hN : Near (R1 n * R1 n) (R1 g.1 * R1 g.1 + R1 g.2.1 * R1 g.2.1 + R1 g.2.2.1 * R1 g.2.2.1) ((R1 g.1 * R1 g.1 + R1 g.2.1 * R1 g.2.1 + R1 g.2.2.1 * R1 g.2.2.1) * (41 / 100000000)))
    (hb : NB (R1 g.1) (R1 g.2.1) (R1 g.2.2.1) (R1 n * (100001 / 100000))) (hc : fin .f32 c) (lc : c < 2 ^ 32) (c0 : 24 / 100 ≤ R1 c) (c7 : R1 c ≤ 7) :
    (∀ (i : Fin 3), True) ∧ (Ap (t_i_ScaleVector (tbU g n) c).1 (R1 c / R1 n * R1 g.1) (13 / 10000000) ∧ Ap (t_i_ScaleVector (tbU g n) c).2.1 (R1 c / R1 n * R1 g.2.1) (13 / 10000000) ∧ Ap (t_i_ScaleVector (tbU g n) c).2.2.1 (R1 c / R1 n * R1 g.2.2.1) (13 / 10000000)) ∧
    (∃ far, g_i_LongOf (t_i_ScaleVector (tbU g n) c) = some far ∧ fgt .f64 (t_w_r8Gap (fwide far) (fwide c)) 4562254508917369340 = false) ∧
    ∃ r, g_i_LongOf (t_i_LessVectors (t_i_ScaleVector (t_i_ScaleVector (tbU g n) c) n) (t_i_ScaleVector g c)) = some r ∧ fgt .f64 (fwide r) 4576918229304087675 = false := by
  obtain ⟨gf, g1, g2, g3⟩ := hg.R
  have np : 0 < R1 n := by grind
  have hn0 : R1 n ≠ 0 := by grind
  obtain ⟨u1, u2, u3, i1, i2, i3⟩ := over_R gf hn np hb
  have cin : In (R1 c) 7 := ⟨by grind, c7⟩
  have nin : In (R1 n) 7 := ⟨by grind, n7⟩
  have comp : ∀ {u : Nat} {q : Rat}, Ap u (q / R1 n) (1 / 10000000) → In (q / R1 n) (100001 / 100000) → Ap (fmul .f32 u c) (R1 c / R1 n * q) (13 / 10000000) ∧ In (R1 c / R1 n * q) (701 / 100) := by
    intro u q hu iu
    have e : q / R1 n * R1 c = R1 c / R1 n * q := by rw [Rat.div_def, Rat.div_def]; grind
    have h1 := (hu.mul (Ap.self hc) iu cin ((iu.mul cin).mono (N := 701 / 100) (by decide +kernel)) (by decide +kernel)).mono (f := 13 / 10000000) (by decide +kernel)
    have h2 := (iu.mul cin).mono (N := 701 / 100) (by decide +kernel)
    rw [e] at h1 h2
    exact ⟨h1, h2⟩
  obtain ⟨e1, j1⟩ := comp u1 i1
  obtain ⟨e2, j2⟩ := comp u2 i2
  obtain ⟨e3, j3⟩ := comp u3 i3
  refine ⟨fun _ => trivial, ⟨e1, e2, e3⟩, ?_, ?_⟩
  · -- the distance
    have hC : R1 c / R1 n * R1 n = R1 c := div_mul hn0
    obtain ⟨d1, f1, k1⟩ := near_err' e1.2
    obtain ⟨d2, f2, k2⟩ := near_err' e2.2
    obtain ⟨d3, f3, k3⟩ := near_err' e3.2
    have q1 : R1 (t_i_ScaleVector (tbU g n) c).1 = _ := f1
    have q2 : R1 (t_i_ScaleVector (tbU g n) c).2.1 = _ := f2
    have q3 : R1 (t_i_ScaleVector (tbU g n) c).2.2.1 = _ := f3
    have hd := (NB.of k1 k2 k3).mono (B := 3 / 1000000) (by decide +kernel)
    -- c / n times g has nearly the length c
    have hl0 : 0 ≤ R1 c / R1 n := cancel_r np (by rw [hC]; grind)
    generalize R1 c / R1 n = l at *
    have s1 := sq_nn (R1 g.1); have s2 := sq_nn (R1 g.2.1); have s3 := sq_nn (R1 g.2.2.1)
    have eqs : l * R1 g.1 * (l * R1 g.1) + l * R1 g.2.1 * (l * R1 g.2.1) + l * R1 g.2.2.1 * (l * R1 g.2.2.1) = l * l * (R1 g.1 * R1 g.1 + R1 g.2.1 * R1 g.2.1 + R1 g.2.2.1 * R1 g.2.2.1) := by grind
    have hll := sq_nn l
    have hcc : l * l * (R1 n * R1 n) = R1 c * R1 c := by rw [← hC]; grind
    have hgg : In (l * l * (R1 g.1 * R1 g.1 + R1 g.2.1 * R1 g.2.1 + R1 g.2.2.1 * R1 g.2.2.1) - R1 c * R1 c) (R1 c * R1 c * (42 / 100000000)) := by
      have hd' : In (R1 g.1 * R1 g.1 + R1 g.2.1 * R1 g.2.1 + R1 g.2.2.1 * R1 g.2.2.1 - R1 n * R1 n) (R1 n * R1 n * (42 / 100000000)) := ⟨by have := hN.1; have := hN.2; have := sq_nn (R1 n); grind, by have := hN.1; have := hN.2; have := sq_nn (R1 n); grind⟩
      have hlin : In (l * l) (l * l) := ⟨by grind, by grind⟩
      have := hlin.mul hd'
      rw [show l * l * (R1 g.1 * R1 g.1 + R1 g.2.1 * R1 g.2.1 + R1 g.2.2.1 * R1 g.2.2.1 - R1 n * R1 n) = l * l * (R1 g.1 * R1 g.1 + R1 g.2.1 * R1 g.2.1 + R1 g.2.2.1 * R1 g.2.2.1) - R1 c * R1 c by rw [← hcc]; grind, show l * l * (R1 n * R1 n * (42 / 100000000)) = R1 c * R1 c * (42 / 100000000) by rw [← hcc]; grind] at this
      exact this
    have cc := sq_nn (R1 c)
    have hT : NB (l * R1 g.1) (l * R1 g.2.1) (l * R1 g.2.2.1) (R1 c * (1000001 / 1000000)) := ⟨by rw [eqs]; have := hgg.2; grind, by grind⟩
    have ht := hT.add hd
    rw [← q1, ← q2, ← q3] at ht
    obtain ⟨x1, x2, x3⟩ := (ht.mono (B := 8) (by grind)).comp
    obtain ⟨F, F1, F2, F3, F4, F5, F6, _⟩ := long_R ⟨e1.1, e2.1, e3.1⟩ x1 x2 x3 (by decide +kernel)
    refine ⟨F, F1, ?_⟩
    have hup := F6 _ ht
    have hbk := F5.add hd.neg
    rw [q1, q2, q3] at hbk
    have s : ∀ a d : Rat, a + d + -d = a := fun a d => by grind
    rw [s, s, s] at hbk
    have hlow : R1 c * (999999 / 1000000) ≤ R1 F * (1000001 / 1000000) + tin + 3 / 1000000 := by
      refine le_of_sq hbk.2 (Rat.le_trans ?_ hbk.1)
      rw [eqs]
      have := hgg.1
      grind
    obtain ⟨w1, w2'⟩ := wide_R F3 F2
    obtain ⟨w3, w4⟩ := wide_R lc hc
    obtain ⟨y1, y2⟩ := gap_R w1 w3 (M := 1 / 10000) (by rw [w2', w4]; unfold tin R1 at *; exact ⟨by grind, by grind⟩) (by decide +kernel)
    rw [fgt_R y1 tol3.1]
    have := tol3.2.1
    exact decide_eq_false (by grind)
  · -- the direction
    have part : ∀ {x y : Nat} {q : Rat}, Ap x (R1 c / R1 n * q) (13 / 10000000) → In (R1 c / R1 n * q) (701 / 100) → fin .f32 y → R1 y = q → In q 4 → fin .f32 (fsub .f32 (fmul .f32 x n) (fmul .f32 y c)) ∧ In (R1 (fsub .f32 (fmul .f32 x n) (fmul .f32 y c))) (3 / 100000) := by
      intro x y q hx ix hy hyq iq
      subst hyq
      have hC : R1 c / R1 n * R1 y * R1 n = R1 y * R1 c := by
        have := div_mul (a := R1 c) hn0
        rw [show R1 c / R1 n * R1 y * R1 n = R1 c / R1 n * R1 n * R1 y by grind, this]; grind
      have a1 := (hx.mul (Ap.self hn) ix nin ((ix.mul nin).mono (N := 50) (by decide +kernel)) (by decide +kernel)).mono (f := 121 / 10000000) (by decide +kernel)
      rw [hC] at a1
      have iy : In (R1 y) 4 := iq
      have a2 := ((Ap.self hy).mul (Ap.self hc) iy cin ((iy.mul cin).mono (N := 28) (by decide +kernel)) (by decide +kernel)).mono (f := 17 / 10000000) (by decide +kernel)
      have z : In (R1 y * R1 c - R1 y * R1 c) 0 := ⟨by grind, by grind⟩
      have a3 := a1.sub a2 z (by decide +kernel)
      exact ⟨a3.1, (a3.inn z).mono (by decide +kernel)⟩
    obtain ⟨x1, y1⟩ := part e1 j1 gf.1 rfl g1
    obtain ⟨x2, y2⟩ := part e2 j2 gf.2.1 rfl g2
    obtain ⟨x3, y3⟩ := part e3 j3 gf.2.2 rfl g3
    obtain ⟨r, r1, r2, r3, r4, _, r6, _⟩ := long_R (t := t_i_LessVectors (t_i_ScaleVector (t_i_ScaleVector (tbU g n) c) n) (t_i_ScaleVector g c)) ⟨x1, x2, x3⟩ y1 y2 y3 (by decide +kernel)
    refine ⟨r, r1, ?_⟩
    have hr := r6 _ (NB.of y1 y2 y3)
    obtain ⟨w1, w2'⟩ := wide_R r3 r2
    rw [fgt_R w1 tol2.1, w2']
    have := tol2.2.1
    unfold tin R1 at *
    exact decide_eq_false (by grind)

/-- The numbers of the law. -/
theorem tri {A B C : Rat} (hA : 1 / 4 ≤ A) (hB : 1 / 4 ≤ B) (hC : 0 < C) (h1 : In (A - B) C) (h2 : C ≤ A + B) : ∃ X0, X0 * (2 * C) = A * A - B * B + C * C ∧ In X0 A ∧ (C - X0) * (C - X0) + (A * A - X0 * X0) = B * B ∧ In (C - X0) B := by
  have e := div_mul (a := A * A - B * B + C * C) (b := 2 * C) (by grind)
  generalize (A * A - B * B + C * C) / (2 * C) = X0 at *
  have hin : In X0 A := by
    refine In.cancel (c := 2 * C) (by grind) ?_
    rw [e]
    have p1 := Rat.mul_nonneg (a := B - (A - C)) (b := B + (A - C)) (by have := h1.2; grind) (by grind)
    have p2 := Rat.mul_nonneg (a := A + C - B) (b := A + C + B) (by have := h1.1; grind) (by grind)
    exact ⟨by grind, by grind⟩
  have hsq : (C - X0) * (C - X0) + (A * A - X0 * X0) = B * B := by grind
  have h0 : X0 * X0 ≤ A * A := by have := (hin.mul hin).2; grind
  exact ⟨X0, e, hin, hsq, In.of_sq (by grind) (by grind)⟩

theorem half_diff {X X0 : Rat} {e M : Rat} (h : In (X - X0) e) (hs : In (X + X0) M) : In (X * X - X0 * X0) (e * M) := by
  have := h.mul hs
  rw [show (X - X0) * (X + X0) = X * X - X0 * X0 by grind] at this
  exact this

/-- The middle. -/
theorem tb_mid (ha : Leg a) (hb' : Leg b) (hg : QV g) (hp : QV p) (hn : fin .f32 n) (ln : n < 2 ^ 32) (n0 : 1 / 5 ≤ R1 n) (n7 : R1 n ≤ 7) (hN : Near (R1 n * R1 n) (R1 g.1 * R1 g.1 + R1 g.2.1 * R1 g.2.1 + R1 g.2.2.1 * R1 g.2.2.1) ((R1 g.1 * R1 g.1 + R1 g.2.1 * R1 g.2.1 + R1 g.2.2.1 * R1 g.2.2.1) * (41 / 100000000)))
    (hb : NB (R1 g.1) (R1 g.2.1) (R1 g.2.2.1) (R1 n * (100001 / 100000))) (hc : fin .f32 c) (lc : c < 2 ^ 32) (c0 : 24 / 100 ≤ R1 c) (c7 : R1 c ≤ 7) (hK : t_w_r8Along g p = false)
    {m : Nat} (hm : fin .f32 m) (m0 : 0 ≤ R1 m) (mb : NB (R1 (tbW g p n).1) (R1 (tbW g p n).2.1) (R1 (tbW g p n).2.2.1) (R1 m * (1000001 / 1000000) + tin))
    (hM : Near (R1 m * R1 m) (R1 (tbW g p n).1 * R1 (tbW g p n).1 + R1 (tbW g p n).2.1 * R1 (tbW g p n).2.1 + R1 (tbW g p n).2.2.1 * R1 (tbW g p n).2.2.1) ((R1 (tbW g p n).1 * R1 (tbW g p n).1 + R1 (tbW g p n).2.1 * R1 (tbW g p n).2.1 + R1 (tbW g p n).2.2.1 * R1 (tbW g p n).2.2.1) * (1 / 2500000) + tin * tin / 100))
    (hr : In (R1 a - R1 b) (R1 c)) (hab : R1 c ≤ R1 a + R1 b) (hh : fin .f32 h) (h0 : 0 ≤ R1 h) (hx : fin .f32 (tbX a b c))
    (hX : ∀ X0 : Rat, X0 * (2 * R1 c) = R1 a * R1 a - R1 b * R1 b + R1 c * R1 c → In X0 5 → In (R1 (tbX a b c) - X0) (17 / 1000000))
    (hH : ∀ X0 : Rat, In X0 5 → In (R1 (tbX a b c) - X0) (17 / 1000000) → 0 ≤ R1 a * R1 a - X0 * X0 → In (R1 h * R1 h - (R1 a * R1 a - X0 * X0)) (18 / 100000))
    (he : Ap (t_i_ScaleVector (tbU g n) c).1 (R1 c / R1 n * R1 g.1) (13 / 10000000) ∧ Ap (t_i_ScaleVector (tbU g n) c).2.1 (R1 c / R1 n * R1 g.2.1) (13 / 10000000) ∧ Ap (t_i_ScaleVector (tbU g n) c).2.2.1 (R1 c / R1 n * R1 g.2.2.1) (13 / 10000000)) :
    (∃ F, g_i_LongOf (t_i_AddVectors (t_i_ScaleVector (tbU g n) (tbX a b c)) (t_i_ScaleVector (t_i_Vector_over (tbW g p n) m) h)) = some F ∧ fin .f32 F ∧ F < 2 ^ 32 ∧ In (R1 F - R1 a) (97 / 10000)) ∧
    (∃ F, g_i_LongOf (t_i_LessVectors (t_i_ScaleVector (tbU g n) c) (t_i_AddVectors (t_i_ScaleVector (tbU g n) (tbX a b c)) (t_i_ScaleVector (t_i_Vector_over (tbW g p n) m) h))) = some F ∧ fin .f32 F ∧ F < 2 ^ 32 ∧ In (R1 F - R1 b) (97 / 10000)) ∧
    fge .f64 (fmul .f64 (fmul .f64 (fwide (t_i_InnerOf (t_i_AddVectors (t_i_ScaleVector (tbU g n) (tbX a b c)) (t_i_ScaleVector (t_i_Vector_over (tbW g p n) m) h)) p)) (fwide n)) (fwide n)) (fsub .f64 (fmul .f64 (fwide (t_i_InnerOf (t_i_AddVectors (t_i_ScaleVector (tbU g n) (tbX a b c)) (t_i_ScaleVector (t_i_Vector_over (tbW g p n) m) h)) g)) (fwide (t_i_InnerOf g p))) (fmul .f64 4591870180066957722 (fwide (fadd .f32 1065353216 (fmul .f32 n n))))) = true := by
  obtain ⟨gf, g1, g2, g3⟩ := hg.R
  obtain ⟨pf, p1, p2, p3⟩ := hp.R
  have np : 0 < R1 n := by grind
  have hn0 : R1 n ≠ 0 := by grind
  have hnb : NB (R1 p.1) (R1 p.2.1) (R1 p.2.2.1) (69284 / 10000) := (NB.of p1 p2 p3).mono (by decide +kernel)
  have hNN : R1 n * R1 n ≠ 0 := by
    have := Rat.mul_pos np np
    grind
  have hκ := div_mul (a := R1 p.1 * R1 g.1 + R1 p.2.1 * R1 g.2.1 + R1 p.2.2.1 * R1 g.2.2.1) hNN
  generalize (R1 p.1 * R1 g.1 + R1 p.2.1 * R1 g.2.1 + R1 p.2.2.1 * R1 g.2.2.1) / (R1 n * R1 n) = κ at *
  obtain ⟨w1, w2, w3, _⟩ := tbW_R hg hp hn n0 hb hκ
  obtain ⟨e1, f1, k1⟩ := near_err' w1.2
  obtain ⟨e2, f2, k2⟩ := near_err' w2.2
  obtain ⟨e3, f3, k3⟩ := near_err' w3.2
  have hgeo := geo n0 n7 hN hnb (along_R hg hp hK) hκ f1 f2 f3 ((NB.of k1 k2 k3).mono (by decide +kernel)) m0 hM
  obtain ⟨M0, hgw, hww, hwW⟩ := hgeo
  have mp : 0 < R1 m := by grind
  have hm0 : R1 m ≠ 0 := by grind
  obtain ⟨u1, u2, u3, i1, i2, i3⟩ := over_R gf hn np hb
  obtain ⟨v1, v2, v3, j1, j2, j3⟩ := over_R (g := tbW g p n) ⟨w1.1, w2.1, w3.1⟩ hm mp (mb.mono (by unfold tin; grind))
  -- the place and the height
  have cp : 0 < R1 c := by grind
  obtain ⟨X0, x1, x2, x3, x4⟩ := tri ha.lo hb'.lo cp hr hab
  have a5 := ha.hi
  have b5 := hb'.hi
  have x5 : In X0 5 := x2.mono a5
  have hXd := hX X0 x1 x5
  have hH00 : 0 ≤ R1 a * R1 a - X0 * X0 := by have := (x2.mul x2).2; grind
  have hHd := hH X0 x5 hXd hH00
  have Xin : In (R1 (tbX a b c)) (501 / 100) := ⟨by have := hXd.1; have := x5.1; grind, by have := hXd.2; have := x5.2; grind⟩
  have aa : R1 a * R1 a ≤ 25 := by have := sq_le (a := R1 a) (b := 5) (by have := ha.lo; grind) a5; grind
  have hin : In (R1 h) (501 / 100) := In.of_sq (by have := hHd.2; have := sq_nn X0; grind) (by decide +kernel)
  have hY1 : In (R1 (tbX a b c) * R1 (tbX a b c) + R1 h * R1 h - R1 a * R1 a) (36 / 100000) := by
    have hs : In (R1 (tbX a b c) + X0) (1001 / 100) := ⟨by have := Xin.1; have := x5.1; grind, by have := Xin.2; have := x5.2; grind⟩
    have := half_diff hXd hs
    have h1 := this.1; have h2 := this.2; have h3 := hHd.1; have h4 := hHd.2
    exact ⟨by grind, by grind⟩
  have hY2 : In ((R1 c - R1 (tbX a b c)) * (R1 c - R1 (tbX a b c)) + -R1 h * -R1 h - R1 b * R1 b) (36 / 100000) := by
    have hd : In ((R1 c - R1 (tbX a b c)) - (R1 c - X0)) (17 / 1000000) := ⟨by have := hXd.2; grind, by have := hXd.1; grind⟩
    have hcx : In (R1 c - X0) 5 := x4.mono b5
    have hs : In ((R1 c - R1 (tbX a b c)) + (R1 c - X0)) (1001 / 100) := ⟨by have := hd.1; have := hcx.1; grind, by have := hd.2; have := hcx.2; grind⟩
    have := half_diff hd hs
    have h1 := this.1; have h2 := this.2; have h3 := hHd.1; have h4 := hHd.2
    exact ⟨by grind, by grind⟩
  generalize hxw : tbX a b c = x at *
  generalize hww' : tbW g p n = w at *
  -- the parts of the middle
  have mpart : ∀ {u v : Nat} {q r : Rat}, Ap u (q / R1 n) (1 / 10000000) → In (q / R1 n) (100001 / 100000) → Ap v (r / R1 m) (1 / 10000000) → In (r / R1 m) (100001 / 100000) →
      Ap (fadd .f32 (fmul .f32 u x) (fmul .f32 v h)) (R1 x / R1 n * q + R1 h / R1 m * r) (25 / 10000000) ∧ In (R1 x / R1 n * q + R1 h / R1 m * r) (1003 / 100) := by
    intro u v q r hu iu hv iv
    have eq1 : q / R1 n * R1 x = R1 x / R1 n * q := by rw [Rat.div_def, Rat.div_def]; grind
    have eq2 : r / R1 m * R1 h = R1 h / R1 m * r := by rw [Rat.div_def, Rat.div_def]; grind
    have n1 := (iu.mul Xin).mono (N := 5011 / 1000) (by decide +kernel)
    have n2 := (iv.mul hin).mono (N := 5011 / 1000) (by decide +kernel)
    have m1 := (hu.mul (Ap.self hx) iu Xin n1 (by decide +kernel)).mono (f := 81 / 100000000) (by decide +kernel)
    have m2 := (hv.mul (Ap.self hh) iv hin n2 (by decide +kernel)).mono (f := 81 / 100000000) (by decide +kernel)
    have hsum := (n1.add n2).mono (N := 1003 / 100) (by decide +kernel)
    have s := (m1.add m2 hsum (by decide +kernel)).mono (f := 25 / 10000000) (by decide +kernel)
    rw [eq1, eq2] at s hsum
    exact ⟨s, hsum⟩
  obtain ⟨t1, b1⟩ := mpart u1 i1 v1 j1
  obtain ⟨t2, b2⟩ := mpart u2 i2 v2 j2
  obtain ⟨t3, b3⟩ := mpart u3 i3 v3 j3
  have lN := div_mul (a := R1 x) hn0
  have lM := div_mul (a := R1 h) hm0
  have lC := div_mul (a := R1 c) hn0
  refine ⟨along_word n0 hN M0 hww hgw lN lM ha.lo ha.hi hY1 (t1.mono (by decide +kernel)) (t2.mono (by decide +kernel)) (t3.mono (by decide +kernel)), ?_, ?_⟩
  · -- from the middle to the end
    have dpart : ∀ {E T : Nat} {q r : Rat}, Ap E (R1 c / R1 n * q) (13 / 10000000) → In q 4 → In (q / R1 n) (100001 / 100000) → Ap T (R1 x / R1 n * q + R1 h / R1 m * r) (25 / 10000000) → In (R1 x / R1 n * q + R1 h / R1 m * r) (1003 / 100) →
        Ap (fsub .f32 E T) ((R1 c / R1 n - R1 x / R1 n) * q + -(R1 h / R1 m) * r) (5 / 1000000) := by
      intro E T q r hE iq iqn hT iT
      have ec : In (R1 c / R1 n * q) (701 / 100) := by
        have e : R1 c / R1 n * q = q / R1 n * R1 c := by rw [Rat.div_def, Rat.div_def]; grind
        rw [e]
        exact (iqn.mul (show In (R1 c) 7 from ⟨by grind, c7⟩)).mono (by decide +kernel)
      have s := (hE.sub hT ((ec.sub iT)) (by decide +kernel)).mono (f := 5 / 1000000) (by decide +kernel)
      exact s.cast (by grind)
    exact along_word n0 hN M0 hww hgw (l := R1 c / R1 n - R1 x / R1 n) (μ := -(R1 h / R1 m)) (Y := R1 c - R1 x) (Z := -R1 h) (by
      rw [show (R1 c / R1 n - R1 x / R1 n) * R1 n = R1 c / R1 n * R1 n - R1 x / R1 n * R1 n by grind, lC, lN]) (by
      rw [show -(R1 h / R1 m) * R1 m = -(R1 h / R1 m * R1 m) by grind, lM]) hb'.lo hb'.hi hY2 (dpart he.1 g1 i1 t1 b1) (dpart he.2.1 g2 i2 t2 b2) (dpart he.2.2 g3 i3 t3 b3)
  · -- the side of the pole
    have inner : ∀ {q : dVec} {T1 T2 T3 : Nat}, finV q → In (R1 q.1) 4 → In (R1 q.2.1) 4 → In (R1 q.2.2.1) 4 → ∀ {t1 t2 t3 : Rat}, Ap T1 t1 (25 / 10000000) → Ap T2 t2 (25 / 10000000) → Ap T3 t3 (25 / 10000000) → In t1 (1003 / 100) → In t2 (1003 / 100) → In t3 (1003 / 100) →
        Ap (fadd .f32 (fadd .f32 (fmul .f32 T1 q.1) (fmul .f32 T2 q.2.1)) (fmul .f32 T3 q.2.2.1)) (t1 * R1 q.1 + t2 * R1 q.2.1 + t3 * R1 q.2.2.1) (6 / 100000) ∧ In (t1 * R1 q.1 + t2 * R1 q.2.1 + t3 * R1 q.2.2.1) 121 := by
      intro q T1 T2 T3 hq q1 q2 q3 t1 t2 t3 h1 h2 h3 k1 k2 k3
      have n1 := (k1.mul q1).mono (N := 4012 / 100) (by decide +kernel)
      have n2 := (k2.mul q2).mono (N := 4012 / 100) (by decide +kernel)
      have n3 := (k3.mul q3).mono (N := 4012 / 100) (by decide +kernel)
      have m1 := (h1.mul (Ap.self hq.1) k1 q1 n1 (by decide +kernel)).mono (f := 13 / 1000000) (by decide +kernel)
      have m2 := (h2.mul (Ap.self hq.2.1) k2 q2 n2 (by decide +kernel)).mono (f := 13 / 1000000) (by decide +kernel)
      have m3 := (h3.mul (Ap.self hq.2.2) k3 q3 n3 (by decide +kernel)).mono (f := 13 / 1000000) (by decide +kernel)
      have s1 := (m1.add m2 (n1.add n2) (by decide +kernel)).mono (f := 31 / 1000000) (by decide +kernel)
      have s2 := (s1.add m3 ((n1.add n2).add n3) (by decide +kernel)).mono (f := 6 / 100000) (by decide +kernel)
      exact ⟨s2, ((n1.add n2).add n3).mono (by decide +kernel)⟩
    obtain ⟨ip, ipin⟩ := inner pf p1 p2 p3 t1 t2 t3 b1 b2 b3
    obtain ⟨ig, igin⟩ := inner gf g1 g2 g3 t1 t2 t3 b1 b2 b3
    obtain ⟨gp1, gp2⟩ := inner_E hg hp
    have hD0 : R1 (t_i_InnerOf g p) = R1 p.1 * R1 g.1 + R1 p.2.1 * R1 g.2.1 + R1 p.2.2.1 * R1 g.2.2.1 := by rw [gp2]; grind
    have hDin : In (R1 (t_i_InnerOf g p)) 49 := by
      rw [hD0]
      exact (hnb.inner hb).mono (by grind)
    -- what is to be shown, in rational numbers
    have hid : R1 (t_i_InnerOf g p) = κ * (R1 n * R1 n) := by rw [hD0, hκ]
    have real : -(5 / 1000) ≤ ((R1 x / R1 n * R1 g.1 + R1 h / R1 m * R1 w.1) * R1 p.1 + (R1 x / R1 n * R1 g.2.1 + R1 h / R1 m * R1 w.2.1) * R1 p.2.1 + (R1 x / R1 n * R1 g.2.2.1 + R1 h / R1 m * R1 w.2.2.1) * R1 p.2.2.1) * (R1 n * R1 n) - ((R1 x / R1 n * R1 g.1 + R1 h / R1 m * R1 w.1) * R1 g.1 + (R1 x / R1 n * R1 g.2.1 + R1 h / R1 m * R1 w.2.1) * R1 g.2.1 + (R1 x / R1 n * R1 g.2.2.1 + R1 h / R1 m * R1 w.2.2.1) * R1 g.2.2.1) * R1 (t_i_InnerOf g p) := by
      have hl0 := lN
      have hμ0 : 0 ≤ R1 h / R1 m := cancel_r mp (by rw [lM]; grind)
      rw [hid] at hDin
      rw [hid]
      rw [hκ.symm] at hκ
      generalize R1 x / R1 n = l at *
      generalize R1 h / R1 m = μ at *
      have e : ((l * R1 g.1 + μ * R1 w.1) * R1 p.1 + (l * R1 g.2.1 + μ * R1 w.2.1) * R1 p.2.1 + (l * R1 g.2.2.1 + μ * R1 w.2.2.1) * R1 p.2.2.1) * (R1 n * R1 n) - ((l * R1 g.1 + μ * R1 w.1) * R1 g.1 + (l * R1 g.2.1 + μ * R1 w.2.1) * R1 g.2.1 + (l * R1 g.2.2.1 + μ * R1 w.2.2.1) * R1 g.2.2.1) * (κ * (R1 n * R1 n)) =
          l * ((R1 p.1 * R1 g.1 + R1 p.2.1 * R1 g.2.1 + R1 p.2.2.1 * R1 g.2.2.1) * (R1 n * R1 n) - κ * (R1 n * R1 n) * (R1 g.1 * R1 g.1 + R1 g.2.1 * R1 g.2.1 + R1 g.2.2.1 * R1 g.2.2.1)) + μ * (R1 w.1 * (R1 p.1 - R1 g.1 * κ) + R1 w.2.1 * (R1 p.2.1 - R1 g.2.1 * κ) + R1 w.2.2.1 * (R1 p.2.2.1 - R1 g.2.2.1 * κ)) * (R1 n * R1 n) := by grind
      rw [e]
      have hfst : In (l * ((R1 p.1 * R1 g.1 + R1 p.2.1 * R1 g.2.1 + R1 p.2.2.1 * R1 g.2.2.1) * (R1 n * R1 n) - κ * (R1 n * R1 n) * (R1 g.1 * R1 g.1 + R1 g.2.1 * R1 g.2.1 + R1 g.2.2.1 * R1 g.2.2.1))) (1 / 1000) := by
        have hD' : R1 p.1 * R1 g.1 + R1 p.2.1 * R1 g.2.1 + R1 p.2.2.1 * R1 g.2.2.1 = κ * (R1 n * R1 n) := by rw [← hD0, hid]
        rw [hD']
        refine In.cancel np ?_
        have hd : In (R1 n * R1 n - (R1 g.1 * R1 g.1 + R1 g.2.1 * R1 g.2.1 + R1 g.2.2.1 * R1 g.2.2.1)) (R1 n * R1 n * (42 / 100000000)) := ⟨by have := hN.1; have := hN.2; have := sq_nn (R1 n); grind, by have := hN.1; have := hN.2; have := sq_nn (R1 n); grind⟩
        have h1 := (Xin.mul hDin).mul hd
        rw [show l * (κ * (R1 n * R1 n) * (R1 n * R1 n) - κ * (R1 n * R1 n) * (R1 g.1 * R1 g.1 + R1 g.2.1 * R1 g.2.1 + R1 g.2.2.1 * R1 g.2.2.1)) * R1 n = l * R1 n * (κ * (R1 n * R1 n)) * (R1 n * R1 n - (R1 g.1 * R1 g.1 + R1 g.2.1 * R1 g.2.1 + R1 g.2.2.1 * R1 g.2.2.1)) by grind, hl0]
        have hn7 := Rat.mul_le_mul_of_nonneg_left n7 (show 0 ≤ R1 n by grind)
        exact h1.mono (by grind)
      have hsnd : -(4 / 1000) ≤ μ * (R1 w.1 * (R1 p.1 - R1 g.1 * κ) + R1 w.2.1 * (R1 p.2.1 - R1 g.2.1 * κ) + R1 w.2.2.1 * (R1 p.2.2.1 - R1 g.2.2.1 * κ)) * (R1 n * R1 n) := by
        have hww2 : -(R1 m * (11 / 1000000)) ≤ R1 w.1 * (R1 p.1 - R1 g.1 * κ) + R1 w.2.1 * (R1 p.2.1 - R1 g.2.1 * κ) + R1 w.2.2.1 * (R1 p.2.2.1 - R1 g.2.2.1 * κ) := hwW
        generalize R1 w.1 * (R1 p.1 - R1 g.1 * κ) + R1 w.2.1 * (R1 p.2.1 - R1 g.2.1 * κ) + R1 w.2.2.1 * (R1 p.2.2.1 - R1 g.2.2.1 * κ) = T at *
        have s1 := Rat.mul_le_mul_of_nonneg_left hww2 hμ0
        have s2 : μ * -(R1 m * (11 / 1000000)) = -(R1 h * (11 / 1000000)) := by rw [← lM]; grind
        rw [s2] at s1
        have nn := sq_nn (R1 n)
        have nn49 : R1 n * R1 n ≤ 49 := by have := sq_le (a := R1 n) (b := 7) (by grind) n7; grind
        have s3 := Rat.mul_le_mul_of_nonneg_right s1 nn
        have hh5 := hin.2
        have s4 := Rat.mul_le_mul_of_nonneg_right hh5 nn
        grind
      have := hfst.1
      grind
    -- the words
    obtain ⟨wn1, wn2⟩ := wide_R ln hn
    have oA : ∀ x y, (fadd .f32 x y) < 2 ^ 32 := fun x y => (fadd_okF _ _ _).lt32
    have ipF : Ap (t_i_InnerOf (t_i_AddVectors (t_i_ScaleVector (tbU g n) x) (t_i_ScaleVector (t_i_Vector_over w m) h)) p) _ _ := ip
    have igF : Ap (t_i_InnerOf (t_i_AddVectors (t_i_ScaleVector (tbU g n) x) (t_i_ScaleVector (t_i_Vector_over w m) h)) g) _ _ := ig
    have lip : t_i_InnerOf (t_i_AddVectors (t_i_ScaleVector (tbU g n) x) (t_i_ScaleVector (t_i_Vector_over w m) h)) p < 2 ^ 32 := oA _ _
    have lig : t_i_InnerOf (t_i_AddVectors (t_i_ScaleVector (tbU g n) x) (t_i_ScaleVector (t_i_Vector_over w m) h)) g < 2 ^ 32 := oA _ _
    have lgp : t_i_InnerOf g p < 2 ^ 32 := oA _ _
    generalize t_i_InnerOf (t_i_AddVectors (t_i_ScaleVector (tbU g n) x) (t_i_ScaleVector (t_i_Vector_over w m) h)) p = IP at *
    generalize t_i_InnerOf (t_i_AddVectors (t_i_ScaleVector (tbU g n) x) (t_i_ScaleVector (t_i_Vector_over w m) h)) g = IG at *
    generalize t_i_InnerOf g p = GP at *
    generalize (R1 x / R1 n * R1 g.1 + R1 h / R1 m * R1 w.1) * R1 p.1 + (R1 x / R1 n * R1 g.2.1 + R1 h / R1 m * R1 w.2.1) * R1 p.2.1 + (R1 x / R1 n * R1 g.2.2.1 + R1 h / R1 m * R1 w.2.2.1) * R1 p.2.2.1 = TP at *
    generalize (R1 x / R1 n * R1 g.1 + R1 h / R1 m * R1 w.1) * R1 g.1 + (R1 x / R1 n * R1 g.2.1 + R1 h / R1 m * R1 w.2.1) * R1 g.2.1 + (R1 x / R1 n * R1 g.2.2.1 + R1 h / R1 m * R1 w.2.2.1) * R1 g.2.2.1 = TG at *
    obtain ⟨a1, a2⟩ := wide_R lip ipF.1
    obtain ⟨d1, d2⟩ := wide_R lig igF.1
    obtain ⟨c1, c2⟩ := wide_R lgp gp1
    have nin : In (R1 n) 7 := ⟨by grind, n7⟩
    have u64 := un64
    have e64 := et64_le
    have big2 : (100000000 : Rat) ≤ Fw.w2 (top .f64) := by
      have hh : Fw.w2 30 ≤ Fw.w2 (top .f64) := w2_le (by decide)
      have ee : Fw.w2 30 = 1073741824 := by decide +kernel
      grind
    have ipin' : In (R .f64 (fwide IP)) 122 := by rw [a2]; exact (ipF.inn ipin).mono (by decide +kernel)
    have igin' : In (R .f64 (fwide IG)) 122 := by rw [d2]; exact (igF.inn igin).mono (by decide +kernel)
    have nin' : In (R .f64 (fwide n)) 7 := by rw [wn2]; exact nin
    -- the left side
    obtain ⟨l1, l2⟩ := mul_R a1 wn1 (ipin'.mul nin') (Rat.le_trans (show (122 : Rat) * 7 ≤ 100000000 by decide +kernel) big2)
    have l3 : Near (R .f64 (fmul .f64 (fwide IP) (fwide n))) (TP * R1 n) (43 / 100000) := by
      have nm := near_mul ipF.2 (Near.refl (x := R1 n) (e := 0) (by decide)) ipin nin
      rw [a2, wn2, u64] at l2
      have := nm.1; have := nm.2; have := l2.1; have := l2.2
      unfold R1 at *
      exact ⟨by grind, by grind⟩
    have TPn : In (TP * R1 n) 848 := (ipin.mul nin).mono (by decide +kernel)
    obtain ⟨l4, l5⟩ := mul_R l1 wn1 (((TPn.near l3).mono (N := 849) (by decide +kernel)).mul nin') (Rat.le_trans (show (849 : Rat) * 7 ≤ 100000000 by decide +kernel) big2)
    have l6 : Near (R .f64 (fmul .f64 (fmul .f64 (fwide IP) (fwide n)) (fwide n))) (TP * (R1 n * R1 n)) (31 / 10000) := by
      have nm := near_mul l3 (Near.refl (x := R1 n) (e := 0) (by decide)) TPn nin
      rw [wn2, u64] at l5
      have := nm.1; have := nm.2; have := l5.1; have := l5.2
      unfold R1 at *
      exact ⟨by grind, by grind⟩
    -- the right side
    have gpin : In (R .f64 (fwide GP)) 49 := by rw [c2]; exact hDin
    obtain ⟨r1, r2⟩ := mul_R d1 c1 (igin'.mul gpin) (Rat.le_trans (show (122 : Rat) * 49 ≤ 100000000 by decide +kernel) big2)
    have r3 : Near (R .f64 (fmul .f64 (fwide IG) (fwide GP))) (TG * R1 GP) (3 / 1000) := by
      have nm := near_mul igF.2 (Near.refl (x := R1 GP) (e := 0) (by decide)) igin hDin
      rw [d2, c2, u64] at r2
      have := nm.1; have := nm.2; have := r2.1; have := r2.2
      unfold R1 at *
      exact ⟨by grind, by grind⟩
    have nn49 := (nin.mul nin)
    have nn0 := sq_nn (R1 n)
    have q1 := ((Ap.self hn).mul (Ap.self hn) nin nin nn49 (by decide +kernel)).mono (f := 3 / 1000000) (by decide +kernel)
    have one : Ap 1065353216 1 0 := ⟨one_Ev.1, by
      have e : R .f32 1065353216 = 1 := R1_one
      rw [e]; exact Near.refl (by decide)⟩
    have q2 := (one.add q1 (M := 50) ⟨by have := nn49.2; grind, by have := nn49.2; grind⟩ (by decide +kernel)).mono (f := 7 / 1000000) (by decide +kernel)
    obtain ⟨o1, o2⟩ := wide_R (fadd_okF .f32 1065353216 (fmul .f32 n n)).lt32 q2.1
    have one51 : In (1 + R1 n * R1 n) 50 := ⟨by have := nn49.2; grind, by have := nn49.2; grind⟩
    have o3 : In (R .f64 (fwide (fadd .f32 1065353216 (fmul .f32 n n)))) 51 := by rw [o2]; exact (q2.inn one51).mono (by decide +kernel)
    have tin1 : In (R .f64 4591870180066957722) 1 := ⟨by have := tenth.2.1; grind, by have := tenth.2.2; grind⟩
    obtain ⟨v1', v2'⟩ := mul_R tenth.1 o1 (tin1.mul o3) (Rat.le_trans (show (1 : Rat) * 51 ≤ 100000000 by decide +kernel) big2)
    have v3' : Near (R .f64 (fmul .f64 4591870180066957722 (fwide (fadd .f32 1065353216 (fmul .f32 n n))))) (1 / 10 * (1 + R1 n * R1 n)) (1 / 100000) := by
      have nm := near_mul tenth.2 q2.2 (A := 1 / 10) (B := 50) ⟨by decide +kernel, by decide +kernel⟩ one51
      rw [o2, u64] at v2'
      have := nm.1; have := nm.2; have := v2'.1; have := v2'.2
      unfold R1 at *
      exact ⟨by grind, by grind⟩
    have TGin : In (TG * R1 GP) 5930 := (igin.mul hDin).mono (by decide +kernel)
    obtain ⟨z1, z2⟩ := sub_R r1 v1' (M := 6000) ⟨by have := r3.1; have := v3'.2; have := TGin.1; have := one51.2; grind, by have := r3.2; have := v3'.1; have := TGin.2; grind⟩ (Rat.le_trans (show (6000 : Rat) ≤ 100000000 by decide +kernel) big2)
    rw [fge_R l4 z1]
    refine decide_eq_true ?_
    rw [u64] at z2
    have := z2.2; have := r3.2; have := v3'.1; have := l6.1
    grind
end core

theorem reach_none (d : Nat) : g_i_CanReach [] d = some false := by
  unfold g_i_CanReach
  show (bif ilt 0 1 then _ else _) = _
  rw [show ilt 0 1 = true by decide, cond_t]

theorem gap_lt {F a : Nat} (fF : fin .f32 F) (lF : F < 2 ^ 32) (fa : fin .f32 a) (la : a < 2 ^ 32) (h : In (R1 F - R1 a) (97 / 10000)) : flt .f64 (t_w_r8Gap (fwide F) (fwide a)) 4576918229304087675 = true := by
  obtain ⟨w1, w2⟩ := wide_R lF fF
  obtain ⟨w3, w4⟩ := wide_R la fa
  obtain ⟨y1, y2⟩ := gap_R w1 w3 (M := 97 / 10000) (by rw [w2, w4]; exact h) (by decide +kernel)
  rw [flt_R y1 tol2.1]
  have := tol2.2.1
  exact decide_eq_true (by grind)

theorem v_FnTwoBones (code more : List Int) (hok : okPs [.ro false (.slice (.int .u8)), .ro false (.slice (.int .u8))] (code, more, ())) : g_w_FnTwoBones code more = some true := by
  have hc : ∀ x ∈ code, 0 ≤ x ∧ x ≤ 255 := fun x hx => hok.1.2 x hx
  have hm : ∀ x ∈ more, 0 ≤ x ∧ x ≤ 255 := fun x hx => hok.2.1.2 x hx
  unfold g_w_FnTwoBones
  cases hL : t_w_r8Long code more
  rotate_left
  · rfl
  obtain ⟨hcl, hml⟩ := r8Long_F' hL
  obtain ⟨y1, e1, a1, b1⟩ := rt_r8At (code := code) 40 20 hc (by omega)
  obtain ⟨y2, e2, a2, b2⟩ := rt_r8At (code := code) 41 20 hc (by omega)
  obtain ⟨g, e3, hg⟩ := rq_R8Small hc hcl
  obtain ⟨p, e4, hp⟩ := rq_R8Small hm hml
  obtain ⟨k, rfl⟩ := Int.eq_ofNat_of_zero_le a1
  obtain ⟨l, rfl⟩ := Int.eq_ofNat_of_zero_le a2
  have ha := leg_of (k := k) (by omega)
  have hb := leg_of (k := l) (by omega)
  have e1' : g_w_r8At code 40 20 = some (k : Int) := e1
  have e2' : g_w_r8At code 41 20 = some (l : Int) := e2
  rw [cond_f, e1', opt_bind_some, e2', opt_bind_some]
  dsimp only
  generalize fdiv .f32 (fofInt .f32 (iadd .i64 1 (k : Int))) 1082130432 = a at *
  generalize fdiv .f32 (fofInt .f32 (iadd .i64 1 (l : Int))) 1082130432 = b at *
  rw [e3, opt_bind_some, e4, opt_bind_some]
  have apos := isPositive_R ha.isF (by have := ha.lo; grind)
  have bpos := isPositive_R hb.isF (by have := hb.lo; grind)
  rcases hg.zero_or with rfl | hg0
  · -- no goal
    have hl : g_i_LongOf (0, (0, (0, ()))) = some 0 := by decide +kernel
    have hl' : g_s_l01Long (0, (0, (0, ()))) = some 0 := by rw [← se_LongOf]; exact hl
    have l0 : t_i_isLength 0 = false := by decide +kernel
    have l0' : t_s_l04Length 0 = false := by decide +kernel
    have hi : g_i_TwoBones a b (0, (0, (0, ()))) p = some ((0, (0, (0, ()))), ((0, (0, (0, ()))), (false, ()))) := by
      unfold g_i_TwoBones
      dsimp only
      rw [hl, opt_bind_some, apos.1, bpos.1, l0]; rfl
    have hs : g_s_TwoBones a b (0, (0, (0, ()))) p = some ((0, (0, (0, ()))), ((0, (0, (0, ()))), (false, ()))) := by
      unfold g_s_TwoBones
      dsimp only
      rw [hl', opt_bind_some, apos.2, bpos.2, l0']; rfl
    rw [hl, opt_bind_some, hi, opt_bind_some, hs, opt_bind_some]
    dsimp only
    rw [reach_none]
    cases t_w_r8Along (0, (0, (0, ()))) p <;> rfl
  · obtain ⟨n, n1, n2, n3, n4, n5, n6, n7⟩ := long_Q hg hg0
    have n249 : 249 / 1000 ≤ R1 n := le_of_sq (by grind) (by have := n6.1; grind)
    have nbnd : NB (R1 g.1) (R1 g.2.1) (R1 g.2.2.1) (R1 n * (100001 / 100000)) := ⟨by have := n6.1; have := sq_nn (R1 n); have s1 := sq_nn (R1 g.1); have s2 := sq_nn (R1 g.2.1); have s3 := sq_nn (R1 g.2.2.1); grind, by grind⟩
    have nlen : t_i_isLength n = true := by rw [isLength_R n2]; exact decide_eq_true (by grind)
    have nlen' : t_s_l04Length n = true := (isPositive_R n2 (by grind)).2
    obtain ⟨s1, s2⟩ := ha.sum hb
    have hnn : R1 n * R1 n ≠ 0 := by
      have := Rat.mul_pos (show 0 < R1 n by grind) (show 0 < R1 n by grind)
      grind
    obtain ⟨w1, w2, w3, wi1, wi2, wi3⟩ := tbW_R hg hp n2 n4 nbnd (div_mul hnn)
    obtain ⟨m, m1, m2, m3, m4, m5, m6, m7⟩ := long_R (t := tbW g p n) ⟨w1.1, w2.1, w3.1⟩ wi1 wi2 wi3 (by decide +kernel)
    -- how far the end is
    have cfact : fin .f32 (tbC a b n) ∧ tbC a b n < 2 ^ 32 ∧ 24 / 100 ≤ R1 (tbC a b n) ∧ R1 (tbC a b n) ≤ 7 ∧ R1 (tbC a b n) ≤ R1 a + R1 b := by
      unfold tbC
      have al := ha.lo; have bl := hb.lo
      cases hcmp : fgt .f32 n (fadd .f32 a b)
      · rw [fgt_R n2 s1] at hcmp
        have hle := Rat.not_lt.1 (of_decide_eq_false hcmp)
        rw [cond_f]
        refine ⟨n2, n3, by grind, n5, ?_⟩
        rw [← s2]; exact hle
      · rw [fgt_R n2 s1] at hcmp
        have hlt := of_decide_eq_true hcmp
        rw [cond_t]
        exact ⟨s1, (fadd_okF _ _ _).lt32, by rw [s2]; grind, by unfold R1 at *; grind, by rw [s2]; exact Rat.le_refl⟩
    obtain ⟨c1, c2, c3, c4, c5⟩ := cfact
    obtain ⟨x1, x2, x3⟩ := tbX_R ha hb c1 c3 (by grind)
    obtain ⟨h1, h2, h3⟩ := tbH_R ha x1 x2
    obtain ⟨h, k1, k2, k3, k4, k5⟩ := height_R h1 h2
    obtain ⟨hi, y, hs, hfl⟩ := tb_run (g := g) (p := p) apos.1 bpos.1 apos.2 bpos.2 n1 nlen nlen' m1 (length_flags m2 m4) k1
    rw [n1, opt_bind_some, hi, opt_bind_some, hs, opt_bind_some, hfl]
    cases hml' : t_i_isLength m
    · simp only [cond_f]
      rw [reach_none]
      cases t_w_r8Along g p <;> rfl
    · simp only [cond_t]
      rw [show (!(true == true)) = false from rfl, cond_f, feq0 n2 n4, cond_f]
      cases hal : t_w_r8Along g p
      rotate_left
      · rfl
      rw [cond_f, bnot_t, cond_f]
      obtain ⟨_, hend, ⟨far, f1, f2⟩, r, r1, r2⟩ := tb_far hg n2 n3 n4 n5 n6 nbnd c1 c2 c3 c4
      obtain ⟨yr, re1, re2⟩ := reach_R ha hb c1 c2
      have hAA : R1 a * R1 a ≤ 25 := by have := sq_le (a := R1 a) (b := 5) (by have := ha.lo; grind) ha.hi; grind
      have mid := fun hyr : yr = true => tb_mid (h := h) ha hb hg hp n2 n3 n4 n5 n6 nbnd c1 c2 c3 c4 hal m2 m4 m5 m7 (re2 hyr) c5 k2 k4 x1 (fun X0 q r => x3 X0 q c4 r) (fun X0 q r h0 => k5 _ h0 (by
        have := sq_nn X0
        grind) (h3 X0 q r)) hend
      rw [f1, opt_bind_some]
      -- both ways
      cases hcmp : fgt .f32 n (fadd .f32 a b)
      · have hC : tbC a b n = n := by unfold tbC; rw [hcmp]; rfl
        rw [hC] at f2 r1 re1 mid ⊢
        rw [cond_f, f2, cond_f, r1, opt_bind_some, r2, cond_f, re1, opt_bind_some]
        cases hyr : yr
        · rfl
        · obtain ⟨⟨F, F1, F2, F3, F4⟩, ⟨F', F1', F2', F3', F4'⟩, hfin⟩ := mid hyr
          rw [bnot_t, cond_f, F1, opt_bind_some, gap_lt F2 F3 ha.isF ha.lt F4, cond_t, F1', opt_bind_some, gap_lt F2' F3' hb.isF hb.lt F4', cond_t, hfin]
      · have hC : tbC a b n = fadd .f32 a b := by unfold tbC; rw [hcmp]; rfl
        rw [hC] at f2 r1 re1 mid ⊢
        rw [cond_t, f2, cond_f, r1, opt_bind_some, r2, cond_f, re1, opt_bind_some]
        cases hyr : yr
        · rfl
        · obtain ⟨⟨F, F1, F2, F3, F4⟩, ⟨F', F1', F2', F3', F4'⟩, hfin⟩ := mid hyr
          rw [bnot_t, cond_f, F1, opt_bind_some, gap_lt F2 F3 ha.isF ha.lt F4, cond_t, F1', opt_bind_some, gap_lt F2' F3' hb.isF hb.lt F4', cond_t, hfin]
end Go.Fw
