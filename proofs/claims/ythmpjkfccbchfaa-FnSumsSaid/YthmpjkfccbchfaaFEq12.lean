/- FnSums: sums in their orders. No condition. -/
import Derived.Test.YthmpjkfccbchfaaFEq5
import Derived.Test.YthmpjkfccbchfaaFEq2
import Derived.Test.YthmpjkfccbchfaaFwE
set_option linter.unusedVariables false
set_option linter.unusedSimpArgs false
namespace Go.Fw
open Ieee

theorem b10Long_F' {code more : List Int} (h : t_w_b10Long code more = false) : code.length ≤ 4294967296 ∧ more.length ≤ 4294967296 := b10Long_F h

/-! ### products with 1 -/
theorem near_word {k : FloatKind} {s : Bool} {m : Nat} {e : Int} {t : Nat} (ht : fin k t) (h : sgR s ((m : Rat) * w2 e) = R k t) : k.format.nearest s m e = k.format.word s (t % k.format.signWeight) := by
  have hv : 0 ≤ (m : Rat) * w2 e := Rat.mul_nonneg (Rat.natCast_nonneg) (Rat.le_of_lt (w2_pos _))
  have hv2 : 0 ≤ (V k t : Rat) * w2 k.format.leastPlace := Rat.mul_nonneg (Rat.natCast_nonneg) (Rat.le_of_lt (w2_pos _))
  have hval : (m : Rat) * w2 e = (V k t : Rat) * w2 k.format.leastPlace := by
    rw [R_V] at h
    cases s <;> cases sg k t <;> simp [sgR] at h <;> grind
  have hnat : m * 2 ^ (e - k.format.leastPlace).toNat = V k t * 2 ^ (k.format.leastPlace - e).toNat := by
    apply Rat.natCast_inj.1
    rw [natR_mul, natR_mul, ← w2_nat, ← w2_nat]
    rcases Int.le_total e k.format.leastPlace with hl | hl
    · have e1 : ((e - k.format.leastPlace).toNat : Int) = 0 := by omega
      have e2 : ((k.format.leastPlace - e).toNat : Int) = k.format.leastPlace - e := by omega
      rw [e1, e2, w2_zero]
      have hw : w2 k.format.leastPlace = w2 (k.format.leastPlace - e) * w2 e := by rw [← w2_add]; congr 1; omega
      rw [hw] at hval
      have h3 : ((m : Rat) - (V k t : Rat) * w2 (k.format.leastPlace - e)) * w2 e = 0 := by grind
      rcases Rat.mul_eq_zero.1 h3 with h4 | h4
      · grind
      · exact absurd (w2_pos e) (by rw [h4]; decide)
    · have e1 : ((k.format.leastPlace - e).toNat : Int) = 0 := by omega
      have e2 : ((e - k.format.leastPlace).toNat : Int) = e - k.format.leastPlace := by omega
      rw [e1, e2, w2_zero]
      have hw : w2 e = w2 (e - k.format.leastPlace) * w2 k.format.leastPlace := by rw [← w2_add]; congr 1; omega
      rw [hw] at hval
      have h3 : ((m : Rat) * w2 (e - k.format.leastPlace) - (V k t : Rat)) * w2 k.format.leastPlace = 0 := by grind
      rcases Rat.mul_eq_zero.1 h3 with h4 | h4
      · grind
      · exact absurd (w2_pos k.format.leastPlace) (by rw [h4]; decide)
  have ht' : t % k.format.signWeight < k.format.infRung := ht
  exact near_eq k.format s (m := m) (e := e) (r := t % k.format.signWeight) (Nat.le_of_lt ht') hnat

theorem R1_1 : R .f32 1065353216 = 1 := by decide +kernel
theorem mul_one_w {x : Nat} (hx : okF .f32 x) : fmul .f32 x 1065353216 = x := by
  have f1 : fin .f32 1065353216 := one_Ev.1
  cases hn : isNan .f32 x
  · rcases num_cases hn with hf | ⟨hi, hr⟩
    · obtain ⟨m, e, h1, h2⟩ := fmul_fin hf f1
      have hs : (sg .f32 x ^^ sg .f32 1065353216) = sg .f32 x := by
        have : sg .f32 1065353216 = false := by decide +kernel
        rw [this]; cases sg .f32 x <;> rfl
      rw [hs] at h1 h2
      rw [h1, near_word hf (by rw [h2, R1_1]; grind)]
      exact word_self hx.lt
    · have h1 : FloatKind.f32.format.read 1065353216 = .number false 8388608 (-23) := by decide +kernel
      have e : fmul .f32 x 1065353216 = FloatKind.f32.format.word (sg .f32 x) FloatKind.f32.format.infRung := by
        unfold fmul fop floatBits Format.mul
        rw [hr, h1]
        simp only [Datum.product, Bool.xor_false]
        rw [if_neg (by decide)]
        rfl
      have hw := word_self (k := .f32) hx.lt
      rw [hi] at hw
      rw [e]
      exact hw
  · have e : fmul .f32 x 1065353216 = qnan .f32 := by
      unfold fmul fop
      rw [floatBits_nan_left hn]; rfl
    rw [e, ← canon_nan hn, hx.canon]

/-! ### lists -/
theorem take_snoc {l : List Nat} {i : Nat} (h : i < l.length) : l.take (i + 1) = l.take i ++ [l.getD i 0] := by
  rw [List.take_add_one]
  simp [List.getElem?_eq_getElem h, List.getD_eq_getElem?_getD]
theorem take_snocI {l : List Int} {i : Nat} (h : i < l.length) : l.take (i + 1) = l.take i ++ [l.getD i 0] := by
  rw [List.take_add_one]
  simp [List.getElem?_eq_getElem h, List.getD_eq_getElem?_getD]

def fsum (l : List Nat) : Nat := l.foldl (fadd .f32) 0

theorem c_sum {l : List Nat} (hl : l.length ≤ 256) : g_i_SumNumbers l = some (fsum l, (true, ())) := by
  unfold g_i_SumNumbers g_i_sum
  rw [show ilt 256 (l.length : Int) = false by rw [ilt_F]; omega, cond_f]
  obtain ⟨o, h1, h2⟩ := Ret.iter (step := L_i_sum_1) (fun m d => ∃ i, i + m = l.length ∧ d = (((l.take i).foldl (fadd .f32) 0, (l, ((l.length : Int), ((i : Int), ())))), ())) (fun o => o = ((fsum l, ()), ())) (by
    rintro r m d ⟨i, hi, rfl⟩ ih
    simp only [L_i_sum_1]
    by_cases hlt : i < l.length
    · rw [show ilt (i : Int) (l.length : Int) = true by rw [ilt_T]; omega, cond_t, ix_nat hlt, opt_bind_some, iadd_nat (by omega)]
      exact ih (m - 1) _ (by omega) ⟨i + 1, by omega, by rw [take_snoc hlt, List.foldl_append]; rfl⟩
    · rw [show ilt (i : Int) (l.length : Int) = false by rw [ilt_F]; omega, cond_f]
      exact Ret.pure (by rw [show l.take i = l from List.take_of_length_le (by omega)]; rfl)) fuel l.length _ ⟨0, by omega, rfl⟩ (by unfold fuel; omega)
  have e : ((0 : Nat) : Int) = 0 := rfl
  rw [show (((l.take 0).foldl (fadd .f32) 0, (l, ((l.length : Int), (((0 : Nat) : Int), ())))), ()) = ((0, (l, ((l.length : Int), (0, ())))), ()) from rfl] at h1
  rw [h1, h2]; rfl

/-- The sum of halves. -/
theorem sp_ok : ∀ (f : Nat) (l : List Nat), l.length ≤ f → f < 1000 → (∀ x ∈ l, okF .f32 x) → ∃ y, okF .f32 y ∧ ∀ g, f ≤ g → g_i_sumPairs_ (g + 1) l = some y := by
  intro f
  induction f with
  | zero =>
    intro l hl _ _
    have : l = [] := List.length_eq_zero_iff.1 (by omega)
    subst this
    exact ⟨0, by constructor <;> decide +kernel, fun g _ => rfl⟩
  | succ f ih =>
    intro l hl hf hok
    by_cases h0 : l.length = 0
    · have : l = [] := List.length_eq_zero_iff.1 h0
      subst this
      exact ⟨0, by constructor <;> decide +kernel, fun g _ => rfl⟩
    by_cases h1 : l.length = 1
    · obtain ⟨x, rfl⟩ := List.length_eq_one_iff.1 h1
      exact ⟨x, hok x (by simp), fun g _ => rfl⟩
    have hlen : (l.length : Int) + 1 < 9223372036854775808 := by omega
    have hq : iquo .i64 (iadd .i64 (l.length : Int) 1) 2 = (((l.length + 1) / 2 : Nat) : Int) := by
      rw [iadd_nat (by omega), iquo_nn (by omega) (by omega) (by omega)]; omega
    obtain ⟨y1, o1, hy1⟩ := ih (List.drop 0 (List.take ((l.length + 1) / 2) l)) (by simp; omega) (by omega) (fun x hx => hok x (List.mem_of_mem_take (List.mem_of_mem_drop hx)))
    obtain ⟨y2, o2, hy2⟩ := ih (List.drop ((l.length + 1) / 2) (List.take l.length l)) (by simp; omega) (by omega) (fun x hx => hok x (List.mem_of_mem_take (List.mem_of_mem_drop hx)))
    refine ⟨fadd .f32 y1 y2, fadd_okF _ _ _, fun g hg => ?_⟩
    obtain ⟨g', rfl⟩ : ∃ g', g = g' + 1 := ⟨g - 1, by omega⟩
    show L_i_sumPairs (g_i_sumPairs_ (g' + 1)) l = _
    unfold L_i_sumPairs
    dsimp only
    rw [hq, nat_int_toNat, show (decide ((0 : Int) ≤ (((l.length + 1) / 2 : Nat) : Int)) && decide ((((l.length + 1) / 2 : Nat) : Int) ≤ (l.length : Int))) = true by simp; omega]
    rw [show ieq (l.length : Int) 0 = false by rw [ieq_F]; omega, cond_f, show ieq (l.length : Int) 1 = false by rw [ieq_F]; omega, cond_f, cond_t, hy1 g' (by omega), opt_bind_some, cond_t, hy2 g' (by omega), opt_bind_some]

/-- The sum of halves of a longer list. -/
theorem sp_two {l : List Nat} (h2 : 2 ≤ l.length) (hl : l.length ≤ 60) (hok : ∀ x ∈ l, okF .f32 x) : ∃ y1 y2, okF .f32 y1 ∧ okF .f32 y2 ∧ g_i_sumPairs l = some (fadd .f32 y1 y2) ∧ g_i_sumPairs (l.take ((l.length + 1) / 2)) = some y1 ∧ g_i_sumPairs (l.drop ((l.length + 1) / 2)) = some y2 := by
  obtain ⟨y1, o1, hy1⟩ := sp_ok 61 (List.drop 0 (List.take ((l.length + 1) / 2) l)) (by simp; omega) (by omega) (fun x hx => hok x (List.mem_of_mem_take (List.mem_of_mem_drop hx)))
  obtain ⟨y2, o2, hy2⟩ := sp_ok 61 (List.drop ((l.length + 1) / 2) (List.take l.length l)) (by simp; omega) (by omega) (fun x hx => hok x (List.mem_of_mem_take (List.mem_of_mem_drop hx)))
  refine ⟨y1, y2, o1, o2, ?_, hy1 63 (by omega), ?_⟩
  · have hq : iquo .i64 (iadd .i64 (l.length : Int) 1) 2 = (((l.length + 1) / 2 : Nat) : Int) := by
      rw [iadd_nat (by omega), iquo_nn (by omega) (by omega) (by omega)]; omega
    show L_i_sumPairs (g_i_sumPairs_ (62 + 1)) l = _
    unfold L_i_sumPairs
    dsimp only
    rw [hq, nat_int_toNat, show (decide ((0 : Int) ≤ (((l.length + 1) / 2 : Nat) : Int)) && decide ((((l.length + 1) / 2 : Nat) : Int) ≤ (l.length : Int))) = true by simp; omega]
    rw [show ieq (l.length : Int) 0 = false by rw [ieq_F]; omega, cond_f, show ieq (l.length : Int) 1 = false by rw [ieq_F]; omega, cond_f, cond_t, hy1 62 (by omega), opt_bind_some, cond_t, hy2 62 (by omega), opt_bind_some]
  · have := hy2 63 (by omega)
    rw [List.take_length] at this
    exact this

/-! ### the first loop of the law, and products with ones -/
theorem ones_loop (more : List Int) {l : List Nat} (hl : l.length ≤ 256) : iter L_w_FnSums_1 fuel ((more, ((l.length : Int), (0, (0, ())))), (l, ([], ()))) = some ((more, ((l.length : Int), (fsum l, ()))), (l, (List.replicate l.length 1065353216, ()))) := by
  obtain ⟨o, h1, h2⟩ := Ret.iter (step := L_w_FnSums_1) (fun m d => ∃ i, i + m = l.length ∧ d = ((more, ((l.length : Int), ((l.take i).foldl (fadd .f32) 0, ((i : Int), ())))), (l, (List.replicate i 1065353216, ())))) (fun o => o = ((more, ((l.length : Int), (fsum l, ()))), (l, (List.replicate l.length 1065353216, ())))) (by
    rintro r m d ⟨i, hi, rfl⟩ ih
    simp only [L_w_FnSums_1]
    by_cases hlt : i < l.length
    · rw [show ilt (i : Int) (l.length : Int) = true by rw [ilt_T]; omega, cond_t, List.length_replicate, ble_t (by omega), cond_t, ix_nat hlt, opt_bind_some, iadd_nat (by omega)]
      exact ih (m - 1) _ (by omega) ⟨i + 1, by omega, by rw [take_snoc hlt, List.foldl_append, List.replicate_succ']; rfl⟩
    · rw [show ilt (i : Int) (l.length : Int) = false by rw [ilt_F]; omega, cond_f]
      exact Ret.pure (by rw [show l.take i = l from List.take_of_length_le (by omega), show i = l.length by omega]; rfl)) fuel l.length _ ⟨0, by omega, rfl⟩ (by unfold fuel; omega)
  have e : iter L_w_FnSums_1 fuel ((more, ((l.length : Int), (0, (0, ())))), (l, ([], ()))) = some o := h1
  rw [e, h2]

theorem c_dot_ones {l : List Nat} (hl : l.length ≤ 256) (hok : ∀ x ∈ l, okF .f32 x) : g_i_DotNumbers l (List.replicate l.length 1065353216) = some (fsum l, (true, ())) := by
  unfold g_i_DotNumbers
  rw [List.length_replicate, show ilt 256 (l.length : Int) = false by rw [ilt_F]; omega, cond_f, ieq_self, bnot_t, cond_f]
  obtain ⟨o, h1, h2⟩ := Ret.iter (step := L_i_DotNumbers_1) (fun m d => ∃ i, i + m = l.length ∧ d = ((List.replicate l.length 1065353216, ((l.take i).foldl (fadd .f32) 0, (l, ((l.length : Int), ((i : Int), ()))))), ())) (fun o => o = ((fsum l, ()), ())) (by
    rintro r m d ⟨i, hi, rfl⟩ ih
    simp only [L_i_DotNumbers_1]
    by_cases hlt : i < l.length
    · have hm : okF .f32 (l.getD i 0) := hok _ (by
        simp [List.getD_eq_getElem?_getD, hlt])
      have h1' : (List.replicate l.length 1065353216).getD i 0 = 1065353216 := by
        simp [List.getD_eq_getElem?_getD, hlt]
      rw [show ilt (i : Int) (l.length : Int) = true by rw [ilt_T]; omega, cond_t, ix_nat hlt, opt_bind_some, List.length_replicate, ix_nat hlt, opt_bind_some, iadd_nat (by omega), h1', mul_one_w hm]
      exact ih (m - 1) _ (by omega) ⟨i + 1, by omega, by rw [take_snoc hlt, List.foldl_append]; rfl⟩
    · rw [show ilt (i : Int) (l.length : Int) = false by rw [ilt_F]; omega, cond_f]
      exact Ret.pure (by rw [show l.take i = l from List.take_of_length_le (by omega)]; rfl)) fuel l.length _ ⟨0, by omega, rfl⟩ (by unfold fuel; omega)
  have e : iter L_i_DotNumbers_1 fuel ((List.replicate l.length 1065353216, (0, (l, ((l.length : Int), (0, ()))))), ()) = some o := h1
  rw [e, h2]; rfl

/-! ### whole numbers -/
theorem fofInt32 {n : Int} {N : Nat} (h : n.natAbs ≤ N) (hN : N < 16777216) : Ev (fofInt .f32 n) n 0 N := by
  have hb : (n.natAbs : Rat) * w2 0 ≤ w2 (top .f32) := by
    have h1 : (n.natAbs : Rat) ≤ ((16777216 : Nat) : Rat) := Rat.natCast_le_natCast.2 (by omega)
    have h2 : ((16777216 : Nat) : Rat) = w2 24 := by decide +kernel
    have h3 : w2 24 ≤ w2 (top .f32) := w2_le (by decide)
    rw [w2_zero]; grind
  obtain ⟨f1, _, v, _, f3, _, f5⟩ := round_R .f32 (decide (n < 0)) n.natAbs 0 hb
  have e : fofInt .f32 n = FloatKind.f32.format.nearest (decide (n < 0)) n.natAbs 0 := rfl
  rw [e]
  refine ⟨f1, ?_, h⟩
  have ew : w2 (-((0 : Nat) : Int)) = 1 := by decide +kernel
  rw [f3, f5 (by show n.natAbs < 2 ^ 24; omega) (by decide), w2_zero, ew]
  by_cases h0 : n < 0
  · rw [decide_eq_true h0, if_pos rfl, intR_neg h0]; grind
  · rw [decide_eq_false h0, intR_nonneg (by omega)]
    simp

/-- Small whole numbers. -/
def Sm (ns : List Int) : Prop := ∀ n ∈ ns, n.natAbs ≤ 100

theorem Ev.mono {x : Nat} {n : Int} {d N M : Nat} (h : Ev x n d N) (hM : N ≤ M) : Ev x n d M := ⟨h.1, h.2.1, Nat.le_trans h.2.2 hM⟩

theorem sum_Ev : ∀ (ns : List Int) (acc : Nat) (a : Int) (N : Nat), Sm ns → Ev acc a 0 N → N + 100 * ns.length < 16777216 → Ev ((ns.map (fofInt .f32)).foldl (fadd .f32) acc) (a + ns.sum) 0 (N + 100 * ns.length)
  | [], acc, a, N, _, h, _ => by simpa using h
  | n :: ns, acc, a, N, hs, h, hN => by
    rw [List.length_cons] at hN
    have h1 := h.add (fofInt32 (hs n (by simp)) (by decide)) (by omega) (by decide)
    have h2 := sum_Ev ns _ _ _ (fun x hx => hs x (List.mem_cons_of_mem _ hx)) h1 (by omega)
    rw [List.map_cons, List.foldl_cons, List.sum_cons, List.length_cons, ← Int.add_assoc, show N + 100 * (ns.length + 1) = N + 100 + 100 * ns.length by omega]
    exact h2

theorem Sm.take {ns : List Int} (h : Sm ns) (i : Nat) : Sm (ns.take i) := fun n hn => h n (List.mem_of_mem_take hn)
theorem Sm.drop {ns : List Int} (h : Sm ns) (i : Nat) : Sm (ns.drop i) := fun n hn => h n (List.mem_of_mem_drop hn)

theorem pairs_Ev : ∀ (f : Nat) (ns : List Int), ns.length ≤ f → f < 100 → Sm ns → ∃ y, Ev y ns.sum 0 (100 * ns.length) ∧ ∀ g, f ≤ g → g_i_sumPairs_ (g + 1) (ns.map (fofInt .f32)) = some y := by
  intro f
  induction f with
  | zero =>
    intro ns hl _ _
    have : ns = [] := List.length_eq_zero_iff.1 (by omega)
    subst this
    exact ⟨0, zero_Ev, fun g _ => rfl⟩
  | succ f ih =>
    intro ns hl hf hs
    by_cases h0 : ns.length = 0
    · have : ns = [] := List.length_eq_zero_iff.1 h0
      subst this
      exact ⟨0, zero_Ev, fun g _ => rfl⟩
    by_cases h1 : ns.length = 1
    · obtain ⟨x, rfl⟩ := List.length_eq_one_iff.1 h1
      exact ⟨fofInt .f32 x, by simpa using fofInt32 (hs x (by simp)) (by decide), fun g _ => rfl⟩
    have hq : iquo .i64 (iadd .i64 (ns.length : Int) 1) 2 = (((ns.length + 1) / 2 : Nat) : Int) := by
      rw [iadd_nat (by omega), iquo_nn (by omega) (by omega) (by omega)]; omega
    obtain ⟨y1, o1, hy1⟩ := ih (List.drop 0 (List.take ((ns.length + 1) / 2) ns)) (by simp; omega) (by omega) ((hs.take _).drop _)
    obtain ⟨y2, o2, hy2⟩ := ih (List.drop ((ns.length + 1) / 2) (List.take ns.length ns)) (by simp; omega) (by omega) ((hs.take _).drop _)
    have hsum : (List.drop 0 (List.take ((ns.length + 1) / 2) ns)).sum + (List.drop ((ns.length + 1) / 2) (List.take ns.length ns)).sum = ns.sum := by
      rw [List.drop_zero, List.take_length, ← List.sum_append, List.take_append_drop]
    have hlen : 100 * (List.drop 0 (List.take ((ns.length + 1) / 2) ns)).length + 100 * (List.drop ((ns.length + 1) / 2) (List.take ns.length ns)).length = 100 * ns.length := by
      simp; omega
    have ha := o1.add o2 (by omega) (by decide)
    rw [hsum, hlen] at ha
    refine ⟨fadd .f32 y1 y2, ha, fun g hg => ?_⟩
    obtain ⟨g', rfl⟩ : ∃ g', g = g' + 1 := ⟨g - 1, by omega⟩
    show L_i_sumPairs (g_i_sumPairs_ (g' + 1)) (ns.map (fofInt .f32)) = _
    unfold L_i_sumPairs
    dsimp only
    rw [List.length_map, hq, nat_int_toNat, show (decide ((0 : Int) ≤ (((ns.length + 1) / 2 : Nat) : Int)) && decide ((((ns.length + 1) / 2 : Nat) : Int) ≤ (ns.length : Int))) = true by simp; omega]
    have m1 : List.drop 0 (List.take ((ns.length + 1) / 2) (ns.map (fofInt .f32))) = (List.drop 0 (List.take ((ns.length + 1) / 2) ns)).map (fofInt .f32) := by rw [List.map_drop, List.map_take]
    have m2 : List.drop ((ns.length + 1) / 2) (List.take ns.length (ns.map (fofInt .f32))) = (List.drop ((ns.length + 1) / 2) (List.take ns.length ns)).map (fofInt .f32) := by rw [List.map_drop, List.map_take]
    rw [show ieq (ns.length : Int) 0 = false by rw [ieq_F]; omega, cond_f, show ieq (ns.length : Int) 1 = false by rw [ieq_F]; omega, cond_f, cond_t, m1, hy1 g' (by omega), opt_bind_some, cond_t, m2, hy2 g' (by omega), opt_bind_some]

def sq (ns : List Int) : Int := (ns.map fun n => n * n).sum

theorem sq_snoc (l : List Int) (n : Int) : sq (l ++ [n]) = sq l + n * n := by unfold sq; simp [List.sum_append]
theorem sq_bound : ∀ {ns : List Int}, Sm ns → 0 ≤ sq ns ∧ sq ns ≤ 10000 * ns.length
  | [], _ => by simp [sq]
  | n :: ns, h => by
    have ih := sq_bound (ns := ns) fun x hx => h x (List.mem_cons_of_mem _ hx)
    have hn := h n (by simp)
    have h1 : n * n ≤ 10000 := by
      have : (n.natAbs * n.natAbs : Nat) ≤ 100 * 100 := Nat.mul_le_mul hn hn
      have e : ((n.natAbs * n.natAbs : Nat) : Int) = n * n := by rw [Int.natCast_mul, Int.natAbs_mul_self']
      omega
    have h2 : 0 ≤ n * n := by
      have e : ((n.natAbs * n.natAbs : Nat) : Int) = n * n := by rw [Int.natCast_mul, Int.natAbs_mul_self']
      omega
    have e : sq (n :: ns) = n * n + sq ns := by unfold sq; simp
    rw [e, List.length_cons]
    omega

theorem getD_map {ns : List Int} {i : Nat} (h : i < ns.length) : (ns.map (fofInt .f32)).getD i 0 = fofInt .f32 (ns.getD i 0) := by
  simp [List.getD_eq_getElem?_getD, h]
theorem getD_mem {ns : List Int} {i : Nat} (h : i < ns.length) : ns.getD i 0 ∈ ns := by
  simp [List.getD_eq_getElem?_getD, h]

theorem dot_Ev {ns : List Int} (hs : Sm ns) (hl : ns.length ≤ 30) : ∃ y, g_i_DotNumbers (ns.map (fofInt .f32)) (ns.map (fofInt .f32)) = some (y, (true, ())) ∧ Ev y (sq ns) 0 (10000 * ns.length) := by
  unfold g_i_DotNumbers
  rw [List.length_map, show ilt 256 (ns.length : Int) = false by rw [ilt_F]; omega, cond_f, ieq_self, bnot_t, cond_f]
  obtain ⟨o, h1, h2⟩ := Ret.iter (step := L_i_DotNumbers_1) (fun m d => ∃ i s, i + m = ns.length ∧ Ev s (sq (ns.take i)) 0 (10000 * i) ∧ d = ((ns.map (fofInt .f32), (s, (ns.map (fofInt .f32), ((ns.length : Int), ((i : Int), ()))))), ())) (fun o => Ev o.1.1 (sq ns) 0 (10000 * ns.length)) (by
    rintro r m d ⟨i, s, hi, hev, rfl⟩ ih
    simp only [L_i_DotNumbers_1]
    by_cases hlt : i < ns.length
    · rw [show ilt (i : Int) (ns.length : Int) = true by rw [ilt_T]; omega, cond_t, List.length_map, ix_nat hlt, opt_bind_some, opt_bind_some, iadd_nat (by omega), getD_map hlt]
      have hn := fofInt32 (hs _ (getD_mem hlt)) (by decide)
      have hp := hn.mul hn (by decide) (by decide)
      refine ih (m - 1) _ (by omega) ⟨i + 1, _, by omega, ?_, rfl⟩
      rw [take_snocI hlt, sq_snoc, show 10000 * (i + 1) = 10000 * i + 100 * 100 by omega]
      exact hev.add hp (by omega) (by decide)
    · rw [show ilt (i : Int) (ns.length : Int) = false by rw [ilt_F]; omega, cond_f]
      refine Ret.pure ?_
      rw [show ns.take i = ns from List.take_of_length_le (by omega), show i = ns.length by omega] at hev
      exact hev) fuel ns.length _ ⟨0, 0, by omega, zero_Ev, rfl⟩ (by unfold fuel; omega)
  have e : iter L_i_DotNumbers_1 fuel ((ns.map (fofInt .f32), (0, (ns.map (fofInt .f32), ((ns.length : Int), (0, ()))))), ()) = some o := h1
  rw [e, opt_bind_some]
  exact ⟨_, rfl, h2⟩

theorem wide_dot {ns : List Int} (hs : Sm ns) (hl : ns.length ≤ 30) : ∃ y, g_i_DotWide (ns.map (fofInt .f32)) (ns.map (fofInt .f32)) = some (y, (true, ())) ∧ Ev y (sq ns) 0 (10000 * ns.length) := by
  unfold g_i_DotWide
  rw [List.length_map, show ilt 256 (ns.length : Int) = false by rw [ilt_F]; omega, cond_f, ieq_self, bnot_t, cond_f]
  obtain ⟨o, h1, h2, h3⟩ := Ret.iter (step := L_i_DotWide_1) (fun m d => ∃ i s, i + m = ns.length ∧ (fin .f64 s ∧ R .f64 s = (sq (ns.take i) : Rat)) ∧ d = ((ns.map (fofInt .f32), (s, (ns.map (fofInt .f32), ((ns.length : Int), ((i : Int), ()))))), ())) (fun o => fin .f64 o.1.1 ∧ R .f64 o.1.1 = (sq ns : Rat)) (by
    rintro r m d ⟨i, s, hi, ⟨hf, hev⟩, rfl⟩ ih
    simp only [L_i_DotWide_1]
    by_cases hlt : i < ns.length
    · rw [show ilt (i : Int) (ns.length : Int) = true by rw [ilt_T]; omega, cond_t, List.length_map, ix_nat hlt, opt_bind_some, opt_bind_some, iadd_nat (by omega), getD_map hlt]
      have hn100 := hs _ (getD_mem hlt)
      have hn := fofInt32 hn100 (by decide)
      obtain ⟨w1, w2'⟩ := wide_R (fofInt_okF .f32 (ns.getD i 0)).lt32 hn.1
      have hR : R .f32 (fofInt .f32 (ns.getD i 0)) = ((ns.getD i 0 : Int) : Rat) := by
        have ew : w2 (-((0 : Nat) : Int)) = 1 := by decide +kernel
        rw [hn.2.1, ew]; grind
      rw [hR] at w2'
      have hsq : sq (ns.take (i + 1)) = sq (ns.take i) + ns.getD i 0 * ns.getD i 0 := by rw [take_snocI hlt, sq_snoc]
      have hb := sq_bound (hs.take (i + 1))
      rw [take_snocI hlt, sq_snoc] at hb
      have hb0 := sq_bound (hs.take i)
      have hlen : (ns.take i ++ [ns.getD i 0]).length ≤ 31 := by simp; omega
      generalize ns.getD i 0 = n at *
      have hnn : n * n ≤ 10000 := by
        have : (n.natAbs * n.natAbs : Nat) ≤ 100 * 100 := Nat.mul_le_mul hn100 hn100
        have e : ((n.natAbs * n.natAbs : Nat) : Int) = n * n := by rw [Int.natCast_mul, Int.natAbs_mul_self']
        omega
      have hnn0 : 0 ≤ n * n := by
        have e : ((n.natAbs * n.natAbs : Nat) : Int) = n * n := by rw [Int.natCast_mul, Int.natAbs_mul_self']
        omega
      obtain ⟨t1, t2⟩ := fofInt_R (n := n * n) (by omega)
      obtain ⟨p1, p2⟩ := mul_E w1 w1 t1 (by rw [w2', t2, Rat.intCast_mul])
      obtain ⟨u1, u2⟩ := fofInt_R (n := sq (ns.take i) + n * n) (by omega)
      obtain ⟨q1, q2⟩ := add_E hf p1 u1 (by rw [hev, p2, w2', u2, Rat.intCast_add, Rat.intCast_mul])
      refine ih (m - 1) _ (by omega) ⟨i + 1, _, by omega, ⟨q1, ?_⟩, rfl⟩
      rw [q2, hev, p2, w2', hsq, Rat.intCast_add, Rat.intCast_mul]
    · rw [show ilt (i : Int) (ns.length : Int) = false by rw [ilt_F]; omega, cond_f]
      refine Ret.pure ?_
      rw [show ns.take i = ns from List.take_of_length_le (by omega)] at hev
      exact ⟨hf, hev⟩) fuel ns.length _ ⟨0, 0, by omega, ⟨zero_fin .f64, by rw [R_zero]; rfl⟩, rfl⟩ (by unfold fuel; omega)
  have e : iter L_i_DotWide_1 fuel ((ns.map (fofInt .f32), (0, (ns.map (fofInt .f32), ((ns.length : Int), (0, ()))))), ()) = some o := h1
  rw [e, opt_bind_some]
  have hb := sq_bound hs
  have ht := fofInt32 (n := sq ns) (N := 10000 * ns.length) (by omega) (by omega)
  have ew : w2 (-((0 : Nat) : Int)) = 1 := by decide +kernel
  obtain ⟨r, r1, r2, r3⟩ := conv_E h2 ht.1 (by rw [h3, ht.2.1, ew]; grind)
  rw [r1, opt_bind_some]
  exact ⟨r, rfl, r2, by rw [r3, h3, ew]; grind, ht.2.2⟩

theorem rq_B10Whole {code : List Int} (h : ∀ x ∈ code, 0 ≤ x ∧ x ≤ 255) (hl : code.length ≤ 4294967296) (k : Nat) (hk : k ≤ 1000) : Ret (g_s_B10Whole code (k : Int) 100) fun l => ∃ ns, l = ns.map (fofInt .f32) ∧ ns.length = k ∧ Sm ns := by
  unfold g_s_B10Whole
  refine Ret.bind ((Ret.iter (step := L_s_B10Whole_1) (fun m d => ∃ (i : Nat) (s0 : dSrc) (ns : List Int), i + m = k ∧ ns.length = i ∧ Sm ns ∧ okS (2 * i) s0 ∧ d = (((m : Int), (100, ())), (s0, (ns.map (fofInt .f32), ())))) (fun o => ∃ ns, o.2.1 = ns.map (fofInt .f32) ∧ ns.length = k ∧ Sm ns) ?_ fuel k _ ⟨0, _, [], by omega, rfl, (fun x hx => by cases hx), okS_from h hl, rfl⟩ (by unfold fuel; omega)).mono fun y hy => Ret.pure hy)
  rintro r m d ⟨i, s0, ns, hi, hn, hs, ho, rfl⟩ ih
  simp only [L_s_B10Whole_1]
  by_cases hm : 0 < m
  · rw [show ilt 0 (m : Int) = true by rw [ilt_T]; omega, cond_t, show iadd .i64 (imul .i64 2 100) 1 = 201 by decide]
    refine Ret.bind ((rt_pick 201 ho (by omega) (by omega)).mono fun y hy => ?_)
    obtain ⟨q, hq⟩ := Int.eq_ofNat_of_zero_le hy.1.1
    have hq2 := hy.1.2
    rw [hq] at hq2
    rw [List.length_map, ble_t (by omega), cond_t, hq, isub_ok (by omega) (by omega), isub_ok (by omega) (by omega)]
    refine ih (m - 1) _ (by omega) ⟨i + 1, y.2.1, ns ++ [(q : Int) - 100], by omega, by simp; omega, ?_, hy.2.up (by omega), ?_⟩
    · intro x hx
      rcases List.mem_append.1 hx with hx | hx
      · exact hs x hx
      · simp at hx; subst hx; omega
    · rw [show ((m - 1 : Nat) : Int) = (m : Int) - 1 by omega, List.map_append]; rfl
  · rw [show ilt 0 (m : Int) = false by rw [ilt_F]; omega, cond_f]
    exact Ret.pure ⟨ns, rfl, by omega, hs⟩

theorem int_tab : ∀ k : Nat, k < 201 → floatToIntVal .f32 (fofInt .f32 ((k : Int) - 100)) .i64 = some ((k : Int) - 100) := by decide +kernel
theorem int_sm {n : Int} (h : n.natAbs ≤ 100) : floatToIntVal .f32 (fofInt .f32 n) .i64 = some n := by
  have := int_tab (n + 100).toNat (by omega)
  rw [show (((n + 100).toNat : Nat) : Int) - 100 = n by omega] at this
  exact this

theorem sum_bound : ∀ {ns : List Int}, Sm ns → ns.sum.natAbs ≤ 100 * ns.length
  | [], _ => by simp
  | n :: ns, h => by
    have ih := sum_bound (ns := ns) fun x hx => h x (List.mem_cons_of_mem _ hx)
    have hn := h n (by simp)
    rw [List.sum_cons, List.length_cons]
    omega

/-- The second loop of the law. -/
theorem exact_loop {ns : List Int} (hs : Sm ns) (hl : ns.length ≤ 30) (c d e f g : Nat) : iter L_w_FnSums_2 fuel (((ns.length : Int), (c, (true, (d, (true, (e, (true, (f, (true, (g, (true, (0, (0, (0, ())))))))))))))), (ns.map (fofInt .f32), ())) =
    some ((c, (true, (d, (true, (e, (true, (f, (true, (g, (true, (ns.sum, (sq ns, ())))))))))))), ()) := by
  obtain ⟨o, h1, h2⟩ := Ret.iter (step := L_w_FnSums_2) (fun m x => ∃ i, i + m = ns.length ∧ x = (((ns.length : Int), (c, (true, (d, (true, (e, (true, (f, (true, (g, (true, ((ns.take i).sum, (sq (ns.take i), ((i : Int), ())))))))))))))), (ns.map (fofInt .f32), ()))) (fun o => o = ((c, (true, (d, (true, (e, (true, (f, (true, (g, (true, (ns.sum, (sq ns, ())))))))))))), ())) (by
    rintro r m x ⟨i, hi, rfl⟩ ih
    simp only [L_w_FnSums_2]
    by_cases hlt : i < ns.length
    · rw [show ilt (i : Int) (ns.length : Int) = true by rw [ilt_T]; omega, cond_t, List.length_map, ix_nat hlt, opt_bind_some, getD_map hlt, int_sm (hs _ (getD_mem hlt)), opt_bind_some, opt_bind_some, getD_map hlt, int_sm (hs _ (getD_mem hlt)), opt_bind_some, opt_bind_some, getD_map hlt, int_sm (hs _ (getD_mem hlt)), opt_bind_some, iadd_nat (by omega)]
      have h1 := take_snocI hlt
      have hb1 := sum_bound (hs.take i)
      have hb2 := sum_bound (hs.take (i + 1))
      have hb3 := sq_bound (hs.take i)
      have hb4 := sq_bound (hs.take (i + 1))
      have hn := hs _ (getD_mem hlt)
      have hlen : (ns.take (i + 1)).length ≤ 30 := by simp; omega
      have hlen0 : (ns.take i).length ≤ 30 := by simp; omega
      have e1 : (ns.take (i + 1)).sum = (ns.take i).sum + ns.getD i 0 := by rw [h1, List.sum_append]; simp
      have e2 : sq (ns.take (i + 1)) = sq (ns.take i) + ns.getD i 0 * ns.getD i 0 := by rw [h1, sq_snoc]
      refine ih (m - 1) _ (by omega) ⟨i + 1, by omega, ?_⟩
      rw [e1] at hb2
      rw [e2] at hb4
      rw [e1, e2]
      generalize ns.getD i 0 = n at *
      have em : imul .i64 n n = n * n := by
        show IntKind.i64.wrap _ = _
        rw [wrap_i64 (by omega) (by omega)]
      rw [em, iadd_ok (by omega) (by omega), iadd_ok (by omega) (by omega)]
    · rw [show ilt (i : Int) (ns.length : Int) = false by rw [ilt_F]; omega, cond_f]
      exact Ret.pure (by rw [show ns.take i = ns from List.take_of_length_le (by omega)])) fuel ns.length _ ⟨0, by omega, rfl⟩ (by unfold fuel; omega)
  have e0 : iter L_w_FnSums_2 fuel (((ns.length : Int), (c, (true, (d, (true, (e, (true, (f, (true, (g, (true, (0, (0, (0, ())))))))))))))), (ns.map (fofInt .f32), ())) = some o := h1
  rw [e0, h2]

theorem rt_b10At {code : List Int} (n : Nat) (h : ∀ x ∈ code, 0 ≤ x ∧ x ≤ 255) (h1 : 2 ≤ n) : Ret (g_w_b10At code 0 (n : Int)) fun y => 0 ≤ y ∧ y < n := by
  unfold g_w_b10At
  refine Ret.cond (fun hc => ?_) fun _ => Ret.cond (fun hc => ?_) fun _ => Ret.cond (fun _ => Ret.pure ?_) fun hz => ?_
  · (simp only [ilt_T, ilt_F, ile_T, ile_F, ieq_T, ieq_F, bnot_T, bnot_F, ble_T, ble_F, nz_T, nz_F, nonneg_T, nonneg_F] at hc); omega
  · (simp only [ilt_T, ilt_F, ile_T, ile_F, ieq_T, ieq_F, bnot_T, bnot_F, ble_T, ble_F, nz_T, nz_F, nonneg_T, nonneg_F] at hc)
    rw [show ix 0 code.length = some 0 from ix_nat (i := 0) (by omega), opt_bind_some]
    have hb := h (code.getD 0 0) (by
      have hlt : 0 < code.length := by omega
      simp [List.getD_eq_getElem?_getD, hlt])
    refine Ret.cond (fun _ => Ret.pure ?_) fun hz => ?_
    · rw [iconv_ok (by omega) (by omega), irem_nn hb.1]
      exact ⟨Int.emod_nonneg _ (by omega), Int.emod_lt_of_pos _ (by omega)⟩
    · (simp only [ilt_T, ilt_F, ile_T, ile_F, ieq_T, ieq_F, bnot_T, bnot_F, ble_T, ble_F, nz_T, nz_F, nonneg_T, nonneg_F] at hz); omega
  · have e : iadd .i64 (imul .i64 0 37) 11 = 11 := by decide
    rw [e, irem_nn (by omega)]
    exact ⟨Int.emod_nonneg _ (by omega), Int.emod_lt_of_pos _ (by omega)⟩
  · (simp only [ilt_T, ilt_F, ile_T, ile_F, ieq_T, ieq_F, bnot_T, bnot_F, ble_T, ble_F, nz_T, nz_F, nonneg_T, nonneg_F] at hz); omega

theorem v_FnSums (code more : List Int) (hok : okPs [.ro false (.slice (.int .u8)), .ro false (.slice (.int .u8))] (code, more, ())) : g_w_FnSums code more = some true := by
  have hc : ∀ x ∈ code, 0 ≤ x ∧ x ≤ 255 := fun x hx => hok.1.2 x hx
  have hm : ∀ x ∈ more, 0 ≤ x ∧ x ≤ 255 := fun x hx => hok.2.1.2 x hx
  unfold g_w_FnSums
  cases hL : t_w_b10Long code more
  rotate_left
  · rfl
  obtain ⟨hcl, hml⟩ := b10Long_F' hL
  obtain ⟨y1, e1, a1, b1⟩ := rt_b10At (code := code) 20 hc (by omega)
  obtain ⟨n, rfl⟩ := Int.eq_ofNat_of_zero_le a1
  have e1' : g_w_b10At code 0 20 = some (n : Int) := e1
  have hl0 : Ret (g_s_B10Numbers code (n : Int)) fun l => l.length = n ∧ ∀ x ∈ l, okF .f32 x := by
    unfold g_s_B10Numbers
    exact Ret.bind ((rt_DrawFloats n (okS_from hc hcl) (by omega) (by omega)).mono fun z hz => Ret.pure hz)
  obtain ⟨l, e2, rfl, hlo⟩ := hl0
  obtain ⟨w, e5, ns, rfl, hnl, hs⟩ := rq_B10Whole hm hml l.length (by omega)
  have hq : iquo .i64 (iadd .i64 (l.length : Int) 1) 2 = (((l.length + 1) / 2 : Nat) : Int) := by
    rw [iadd_nat (by omega), iquo_nn (by omega) (by omega) (by omega)]; omega
  obtain ⟨p, op, hp⟩ := sp_ok 61 l (by omega) (by omega) hlo
  obtain ⟨p1, op1, hp1⟩ := sp_ok 61 (l.take ((l.length + 1) / 2)) (by simp; omega) (by omega) (fun x hx => hlo x (List.mem_of_mem_take hx))
  obtain ⟨p2, op2, hp2⟩ := sp_ok 61 (l.drop ((l.length + 1) / 2)) (by simp; omega) (by omega) (fun x hx => hlo x (List.mem_of_mem_drop hx))
  have spP : ∀ {l : List Nat} {y : Nat}, l.length ≤ 60 → (∀ g, 61 ≤ g → g_i_sumPairs_ (g + 1) l = some y) → g_i_SumPairs l = some (y, (true, ())) := fun hl h => by
    unfold g_i_SumPairs
    rw [show ilt 256 _ = false by rw [ilt_F]; omega, cond_f]
    have := h 63 (by omega)
    show Option.bind (g_i_sumPairs_ 64 _) _ = _
    rw [this]; rfl
  have ofs : okF .f32 (fsum l) := by
    unfold fsum
    rcases List.eq_nil_or_concat l with h | ⟨l', x, h⟩
    · rw [h]; constructor <;> decide +kernel
    · rw [h, List.concat_eq_append, List.foldl_append]; exact fadd_okF _ _ _
  have hpp : l.length ≤ 1 ∨ p = fadd .f32 p1 p2 := by
    by_cases h2 : 2 ≤ l.length
    · right
      obtain ⟨z1, z2, _, _, h3, h4, h5⟩ := sp_two h2 (by omega) hlo
      have h6 : g_i_sumPairs l = some p := hp 63 (by omega)
      have h7 : g_i_sumPairs (l.take ((l.length + 1) / 2)) = some p1 := hp1 63 (by omega)
      have h8 : g_i_sumPairs (l.drop ((l.length + 1) / 2)) = some p2 := hp2 63 (by omega)
      rw [h3] at h6
      rw [h4] at h7
      rw [h5] at h8
      cases h6; cases h7; cases h8; rfl
    · left; omega
  -- whole numbers
  have wl : (ns.map (fofInt .f32)).length = l.length := by rw [List.length_map, hnl]
  have cS : Ev (fsum (ns.map (fofInt .f32))) ns.sum 0 2000 := by
    have := sum_Ev ns 0 0 0 hs zero_Ev (by omega)
    rw [Int.zero_add] at this
    exact this.mono (by omega)
  obtain ⟨d, dE, hd⟩ := pairs_Ev 61 ns (by omega) (by omega) hs
  obtain ⟨f, f1, fE⟩ := dot_Ev hs (by omega)
  obtain ⟨g, g1, gE⟩ := wide_dot hs (by omega)
  have hsb := sum_bound hs
  have hqb := sq_bound hs
  have oE := fofInt32 (n := ns.sum) (N := 2000) (by omega) (by decide)
  have qE := fofInt32 (n := sq ns) (N := 10000 * ns.length) (by omega) (by omega)
  have tail : (Option.bind (g_s_B10Whole more (l.length : Int) 100) fun y15 =>
      Option.bind (g_i_SumNumbers y15) fun y16 =>
      Option.bind (g_i_SumPairs y15) fun y17 =>
      bif (Nat.ble (0 + (List.length y15)) 4294967296) then
        Option.bind (g_i_SumPairs ([] ++ y15)) fun y18 =>
        Option.bind (g_i_DotNumbers y15 y15) fun y19 =>
        Option.bind (g_i_DotWide y15 y15) fun y20 =>
        Option.bind (iter L_w_FnSums_2 fuel (((l.length : Int), (y16.1, (y16.2.1, (y17.1, (y17.2.1, (y18.1, (y18.2.1, (y19.1, (y19.2.1, (y20.1, (y20.2.1, (0, (0, (0, ())))))))))))))), (y15, ()))) fun y21 =>
        bif y21.1.2.1 then
          bif y21.1.2.2.2.1 then
            bif y21.1.2.2.2.2.2.1 then
              bif y21.1.2.2.2.2.2.2.2.1 then
                bif y21.1.2.2.2.2.2.2.2.2.2.1 then
                  bif (feq .f32 y21.1.1 (fofInt .f32 y21.1.2.2.2.2.2.2.2.2.2.2.1)) then
                    bif (feq .f32 y21.1.2.2.1 y21.1.1) then
                      bif (feq .f32 y21.1.2.2.2.2.1 y21.1.1) then
                        bif (feq .f32 y21.1.2.2.2.2.2.2.1 (fofInt .f32 y21.1.2.2.2.2.2.2.2.2.2.2.2.1)) then
                          some (feq .f32 y21.1.2.2.2.2.2.2.2.2.1 y21.1.2.2.2.2.2.2.1)
                        else some false
                      else some false
                    else some false
                  else some false
                else some false
              else some false
            else some false
          else some false
        else some false
      else none) = some true := by
    rw [e5, opt_bind_some, c_sum (by omega), opt_bind_some, spP (by omega) hd, opt_bind_some, ble_t (by omega), cond_t, List.nil_append, spP (by omega) hd, opt_bind_some, f1, opt_bind_some, g1, opt_bind_some]
    dsimp only
    rw [← hnl, exact_loop hs (by omega), opt_bind_some]
    dsimp only
    rw [cond_t, cond_t, cond_t, cond_t, cond_t, cS.feq oE, cond_t, dE.feq cS, cond_t, cond_t, fE.feq qE, cond_t, gE.feq fE]
  rw [cond_f, e1', opt_bind_some, e2, opt_bind_some, ones_loop more (by omega), opt_bind_some]
  dsimp only
  rw [c_sum (by omega), opt_bind_some, c_dot_ones (by omega) hlo, opt_bind_some, spP (by omega) hp, opt_bind_some, hq, nat_int_toNat]
  have hcond : (decide ((0 : Int) ≤ (((l.length + 1) / 2 : Nat) : Int)) && decide ((((l.length + 1) / 2 : Nat) : Int) ≤ (l.length : Int))) = true := by simp; omega
  have ht1 : List.take ((l.length + 1) / 2) (List.drop 0 l) = l.take ((l.length + 1) / 2) := by rw [List.drop_zero]
  have ht2 : List.take (l.length - (l.length + 1) / 2) (List.drop ((l.length + 1) / 2) l) = l.drop ((l.length + 1) / 2) := List.take_of_length_le (by simp)
  rw [hcond, cond_t, ht1, spP (by simp; omega) hp1, opt_bind_some, cond_t, ht2, spP (by simp; omega) hp2, opt_bind_some]
  dsimp only
  rw [bnot_t, cond_f, cond_f, cond_f, cond_f, cond_f, c_s_SameNumber ofs ofs, opt_bind_some, same_iff.2 rfl, bnot_t, cond_f, opt_bind_some, bnot_t, cond_f]
  rcases hpp with h1 | h1
  · rw [show ilt 1 (l.length : Int) = false by rw [ilt_F]; omega, cond_f]
    exact tail
  · rw [c_s_SameNumber op (fadd_okF _ _ _), same_iff.2 h1]
    cases ilt 1 (l.length : Int)
    · rw [cond_f]; exact tail
    · rw [cond_t, opt_bind_some, bnot_t, cond_f]; exact tail
end Go.Fw
