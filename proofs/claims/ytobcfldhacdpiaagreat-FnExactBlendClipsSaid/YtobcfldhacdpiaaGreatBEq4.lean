/- The reference's functions and the program's compute the same: even weights. No condition. -/
import Derived.Test.YtobcfldhacdpiaaGreatBEq3
set_option linter.unusedVariables false
set_option linter.unusedSimpArgs false
namespace Go.Fw

/-- A list filled place by place. -/
theorem fill_loop {β D O : Type} {step : (D → Option O) → D → Option O} (d : Nat → List β → D) (out : List β → O) (f : Nat → β) (n : Nat)
    (h1 : ∀ r i acc, i < n → acc.length = n → step r (d i acc) = r (d (i + 1) (acc.set i (f i)))) (h2 : ∀ r acc, acc.length = n → step r (d n acc) = some (out acc)) (hn : n < 4611686018427387904) (acc0 : List β) (h0 : acc0.length = n) :
    iter step fuel (d 0 acc0) = some (out ((List.range n).map f)) := by
  have key : ∀ (k i N : Nat) (acc : List β), i + k = n → k < N → acc.length = n → (∀ j, j < i → acc[j]? = some (f j)) → iter step N (d i acc) = some (out ((List.range n).map f)) := by
    intro k
    induction k with
    | zero =>
      intro i N acc hi hN hl hf
      obtain _ | N := N
      · omega
      rw [iter_succ, show i = n by omega, h2 _ _ hl]
      congr 2
      apply List.ext_getElem?
      intro j
      by_cases hj : j < n
      · rw [hf j (by omega)]; simp [hj]
      · rw [List.getElem?_eq_none (by omega), List.getElem?_eq_none (by simp; omega)]
    | succ k ih =>
      intro i N acc hi hN hl hf
      obtain _ | N := N
      · omega
      rw [iter_succ, h1 _ _ _ (by omega) hl]
      refine ih (i + 1) N _ (by omega) (by omega) (by simpa using hl) fun j hj => ?_
      by_cases e : j = i
      · subst e; rw [List.getElem?_set_self (by omega)]
      · rw [List.getElem?_set_ne (Ne.symm e)]; exact hf j (by omega)
  exact key n 0 fuel acc0 (by omega) (by unfold fuel; omega) h0 fun j hj => by omega

theorem point_T {p : dSkinPoint} (h : t_s_l09Point p = true) : (1 ≤ p.2.1.length ∧ p.2.1.length ≤ 4) ∧ p.2.2.1.length = p.2.1.length := by
  unfold t_s_l09Point at h
  simp only [bif_T, ile_T, ieq_T, reduceCtorEq, and_false, or_false] at h
  omega

end Go.Fw
