/- The reference's functions and the program's compute the same: strings that hang. No condition. -/
import Derived.Test.YtcbpdhhipkdofaaAEq3
set_option linter.unusedVariables false
set_option linter.unusedSimpArgs false
namespace Go.Fw

/-! slices.Repeat of one element -/
theorem mul_small : ∀ n : Fin 64, t_math_bits_Mul (iconv .u64 1) (iconv .u64 ((n : Nat) : Int)) = (0, (((n : Nat) : Int), ())) := by decide +kernel

theorem take_repl {α : Type} (v : α) (i n : Nat) : (List.replicate n v).take i = List.replicate (min i n) v := List.take_replicate ..

theorem repeat_loop {α : Type} {step : ((Int × Unit) × (List α × Unit) → Option (Unit × (List α × Unit))) → (Int × Unit) × (List α × Unit) → Option (Unit × (List α × Unit))} (v : α) (c : Nat) (hc : c ≤ 4096)
    (hstep : ∀ r (k : Nat) (l : List α), k < l.length → l.length ≤ 4096 → step r (((k : Int), ()), (l, ())) = r ((((k + (List.take (l.length - k) (List.take k (List.drop 0 l))).length : Nat) : Int), ()), (putL l k (List.take (l.length - k) (List.take k (List.drop 0 l))), ())))
    (hend : ∀ r (l : List α), step r (((l.length : Int), ()), (l, ())) = some ((), (l, ()))) :
    ∀ (m k N : Nat) (l : List α), c - k ≤ m → m < N → l.length = c → 1 ≤ k → k ≤ c → l.take k = List.replicate k v → iter step N (((k : Int), ()), (l, ())) = some ((), (List.replicate c v, ()))
  | m, k, 0, l, h1, h2, h3, h4, h5, h6 => by omega
  | m, k, N + 1, l, h1, h2, h3, h4, h5, h6 => by
    rw [iter_succ]
    by_cases hk : k = c
    · subst hk
      rw [← h3, hend, h3]
      rw [List.take_of_length_le (by omega)] at h6
      rw [h6]
    · rw [hstep _ _ _ (by omega) (by omega), List.drop_zero, h6, take_repl, h3]
      have hlen : (List.replicate (min (c - k) k) v).length = min (c - k) k := List.length_replicate
      rw [hlen]
      obtain ⟨m', rfl⟩ : ∃ m', m = m' + 1 := ⟨m - 1, by omega⟩
      refine repeat_loop v c hc hstep hend m' _ N _ (by omega) (by omega) ?_ (by omega) (by omega) ?_
      · unfold putL
        simp only [List.length_append, List.length_take, List.length_drop, List.length_replicate]
        omega
      · unfold putL
        rw [hlen, h6, List.replicate_append_replicate, List.take_append_of_le_length (by rw [List.length_replicate]; omega), take_repl, Nat.min_self]

theorem c_Repeat_float (v : Nat) {n : Nat} (h1 : 1 ≤ n) (h2 : n < 64) : g_slices_Repeat_float32_float32 [v] (n : Int) = some (List.replicate n v) := by
  have e := mul_small ⟨n, h2⟩
  unfold g_slices_Repeat_float32_float32
  simp only [List.length_cons, List.length_nil, Nat.zero_add, List.length_replicate]
  rw [show (((1 : Nat) : Int)) = 1 from rfl]
  simp only at e
  rw [e]
  dsimp only
  rw [iconv_ok (by omega) (by omega), ilt_f (by omega), cond_f, ilt_self, cond_f, ilt_f (by omega), cond_f, mkOk_t (by omega) (Int.le_refl _) (by omega), cond_t, nat_int_toNat]
  have et : List.take n [v] = [v] := List.take_of_length_le (by simpa using h1)
  simp only [et, List.length_cons, List.length_nil, Nat.zero_add, List.length_replicate]
  have hp : (putL (List.replicate n 0) 0 [v]).length = n := by
    unfold putL
    simp only [List.length_append, List.length_take, List.length_drop, List.length_replicate, List.length_cons, List.length_nil]
    omega
  have := repeat_loop (step := L_slices_Repeat_float32_float32_1) v n (by omega)
    (fun r k l hk hl => by
      simp only [L_slices_Repeat_float32_float32_1, nat_int_toNat]
      rw [ilt_nat hk, decide_eq_true (show (0 : Int) ≤ (k : Int) by omega), decide_eq_true (show (k : Int) ≤ (l.length : Int) by omega), iadd_ok (by simp only [List.length_take]; omega) (by simp only [List.length_take]; omega)]
      simp only [Bool.and_self, cond_t]
      rw [Int.natCast_add])
    (fun r l => by simp only [L_slices_Repeat_float32_float32_1, ilt_self, cond_f]) n 1 fuel (putL (List.replicate n 0) 0 [v]) (by omega) (by unfold fuel; omega) hp (Nat.le_refl 1) h1 (by unfold putL; simp)
  rw [this]
  rfl

/-! strings that hang -/
def downV (len : Nat) (v : dVec) : dVec := (v.1, ((fsub .f32 v.2.1 len), v.2.2))
def seqV (len : Nat) (v : dVec) : Nat → dVec
  | 0 => v
  | i + 1 => downV len (seqV len v i)
theorem map_range_succ {α : Type} (f : Nat → α) (i : Nat) : (List.range (i + 1)).map f = (List.range i).map f ++ [f i] := by
  rw [List.range_succ, List.map_append]; rfl
theorem map_range_len {α : Type} (f : Nat → α) (i : Nat) : ((List.range i).map f).length = i := by simp

theorem s_hang (len : Nat) (v : dVec) (b1 b5 : dVec × (Nat × (Int × Unit))) (n : Nat) (hn : n ≤ 16) : ∀ (m i N : Nat), i + 1 + m = n → m < N →
    iter L_s_HangString_1 N (((n : Int), (len, (((i + 1 : Nat) : Int), ()))), ((seqV len v i, ()), ((b1, ()), ((List.range (i + 1)).map (seqV len v), (true :: List.replicate i false, (List.replicate i len, ((b5, ()), ()))))))) =
      some ((), ((b1, ()), ((List.range n).map (seqV len v), (true :: List.replicate (n - 1) false, (List.replicate (n - 1) len, ((b5, ()), ()))))))
  | 0, i, N, h1, h2 => by
    obtain _ | N := N
    · omega
    rw [iter_succ, show i + 1 = n by omega, show i = n - 1 by omega]
    simp only [L_s_HangString_1, ilt_self, cond_f]
  | m + 1, i, N, h1, h2 => by
    obtain _ | N := N
    · omega
    have ih := s_hang len v b1 b5 n hn m (i + 1) N (by omega) (by omega)
    rw [map_range_succ, List.replicate_succ', List.replicate_succ', ← List.cons_append] at ih
    rw [iter_succ]
    simp only [L_s_HangString_1, map_range_len, List.length_cons, List.length_replicate]
    rw [ilt_nat (show i + 1 < n by omega), iadd_nat (by omega), ble_t (by omega), ble_t (by omega)]
    simp only [cond_t]
    exact ih

theorem i_hang (len : Nat) (v : dVec) (b1 b5 : dVec × (Nat × (Int × Unit))) (r2 : List Bool) (r4 : List Nat) (n : Nat) (hn : n ≤ 16) : ∀ (m i N : Nat), i + m = n → m < N →
    iter L_i_HangString_1 N ((len, ((n : Int), ((i : Int), ()))), ((seqV len v i, ()), ((b1, ()), (r2, (r4, ((b5, ()), ((List.range i).map (seqV len v), ()))))))) = some ((), ((b1, ()), (r2, (r4, ((b5, ()), ((List.range n).map (seqV len v), ()))))))
  | 0, i, N, h1, h2 => by
    obtain _ | N := N
    · omega
    rw [iter_succ, show i = n by omega]
    simp only [L_i_HangString_1, ilt_self, cond_f]
  | m + 1, i, N, h1, h2 => by
    obtain _ | N := N
    · omega
    have ih := i_hang len v b1 b5 r2 r4 n hn m (i + 1) N (by omega) (by omega)
    rw [map_range_succ] at ih
    rw [iter_succ]
    simp only [L_i_HangString_1, map_range_len]
    rw [ilt_nat (show i < n by omega), iadd_nat (by omega), ble_t (by omega)]
    simp only [cond_t]
    exact ih

theorem c_CloneV (l : List dVec) (h : l.length ≤ 4294967296) : g_slices_Clone_i_Vector_i_Vector l = some l := by
  unfold g_slices_Clone_i_Vector_i_Vector
  rw [ble_t (by omega), List.nil_append]
  simp only [cond_t]
  cases l with
  | nil => exact bothSame_self _
  | cons x r => rfl

theorem e_HangString (v : dVec) (c : Int) (len : Nat) (hok : okPs [.ro true tVec, .ro false (.int .i64), .ro false (.flt .f32)] (v, c, len, ())) : Same (g_s_HangString v c len) (g_i_HangString v c len) fun y => z_String y.1 ≤ 1048576 := by
  unfold g_s_HangString g_i_HangString
  by_cases h1 : 2 ≤ c ∧ c ≤ 16
  rotate_left
  · rw [show t_s_l00In c 2 16 = false by rw [l00In_F]; exact h1, bnot_f, cond_t]
    have hz : z_String (([] : List dVec), (([] : List dVec), (([] : List Bool), (([] : List Nat), ((0, (0, (0, ()))), (0, (0, ()))))))) ≤ 1048576 := by unfold z_String; simp [szL]
    by_cases h2 : c < 2
    · rw [ilt_t h2, cond_t]; exact Same.pure hz
    · rw [ilt_f (by omega), cond_f, ilt_t (by omega), cond_t]; exact Same.pure hz
  obtain ⟨n, rfl⟩ : ∃ n : Nat, c = (n : Int) := ⟨c.toNat, by omega⟩
  rw [show t_s_l00In (n : Int) 2 16 = true by rw [l00In_T]; exact h1, bnot_t, cond_f, ilt_f h1.1, cond_f, ilt_f h1.2, cond_f, mkOk_t (by omega) (Int.le_refl _) (by omega), cond_t, isub_ok (by omega) (by omega), show (n : Int) - 1 = ((n - 1 : Nat) : Int) by omega,
    c_Repeat_float len (by omega) (by omega), opt_bind_some, List.length_replicate, nat_int_toNat, ix_ok (Int.le_refl 0) (by omega), opt_bind_some]
  have hs := s_hang len v ((0, (0, (0, ()))), (0, (0, ()))) ((0, (0, (0, ()))), (1065353216, (4, ()))) n (by omega) (n - 1) 0 fuel (by omega) (by unfold fuel; omega)
  have hi := i_hang len v ((0, (0, (0, ()))), (0, (0, ()))) ((0, (0, (0, ()))), (1065353216, (4, ()))) ((List.replicate n false).set (0 : Int).toNat true) (List.replicate (n - 1) len) n (by omega) n 0 fuel (by omega) (by unfold fuel; omega)
  rw [show (((0 + 1 : Nat) : Int)) = 1 from rfl] at hs
  rw [show (((0 : Nat) : Int)) = 0 from rfl] at hi
  simp only [seqV, List.replicate_zero, show (List.range (0 + 1)).map (seqV len v) = [v] from rfl, show (List.range 0).map (seqV len v) = [] from rfl] at hs hi
  rw [hs, hi]
  simp only [opt_bind_some, List.nil_append, map_range_len]
  rw [c_CloneV _ (by rw [map_range_len]; omega), opt_bind_some, ble_t (by omega), cond_t]
  have hf : (List.replicate n false).set (0 : Int).toNat true = true :: List.replicate (n - 1) false := by
    obtain ⟨k, rfl⟩ : ∃ k, n = k + 1 := ⟨n - 1, by omega⟩
    rfl
  rw [hf]
  refine Same.pure ?_
  have z1 : ∀ l : List dVec, szL z_Vec l = l.length := szL_zero
  have z2 : ∀ l : List Bool, szL z_Bool l = l.length := szL_zero
  have z3 : ∀ l : List Nat, szL z_F32 l = l.length := szL_zero
  show z_String _ ≤ _
  unfold z_String
  simp only [z1, z2, z3, map_range_len, List.length_cons, List.length_replicate]
  omega
end Go.Fw
