/- The reference's functions and the program's compute the same: states that are reached. No condition. -/
import Derived.Test.YtobcfldhacdpiaaGreatZEq1
import Derived.Test.YtobcfldhacdpiaaGreatBEq8
set_option linter.unusedVariables false
set_option linter.unusedSimpArgs false
namespace Go.Fw

/-! whether a list has a number -/
def hasB (l : List Int) (n : Int) : Bool := !(allFrom (fun j => !(ieq (l.getD j 0) n)) 0 l.length)
theorem hasB_T {l : List Int} {n : Int} : hasB l n = true ↔ n ∈ l := by
  unfold hasB
  rw [bnot_T]
  constructor
  · intro h
    rcases Classical.em (n ∈ l) with h1 | h1
    · exact h1
    · exfalso
      have : allFrom (fun j => !(ieq (l.getD j 0) n)) 0 l.length = true := allFrom_of fun j _ hj => by
        rw [bnot_T, ieq_F]
        intro e
        apply h1
        rw [← e, List.getD_eq_getElem?_getD, List.getElem?_eq_getElem (by omega)]
        exact List.getElem_mem ..
      rw [this] at h; cases h
  · intro h
    obtain ⟨j, hj⟩ := List.getElem?_of_mem h
    cases hx : allFrom (fun j => !(ieq (l.getD j 0) n)) 0 l.length
    · rfl
    · have := allFrom_T hx j (Nat.zero_le _) (by have := (List.getElem?_eq_some_iff.1 hj).1; omega)
      rw [bnot_T, ieq_F, List.getD_eq_getElem?_getD, hj] at this
      exact absurd rfl this
theorem c_s_l00Has (l : List Int) (n : Int) (h : l.length ≤ 1048576) : g_s_l00Has l n = some (hasB l n) := by
  unfold g_s_l00Has hasB
  have := all_loop (step := L_s_l00Has_1) (fun i => ((l, (n, (false, ((i : Int), ())))), ())) (false, ((false, ()), ())) (true, ((true, ()), ())) (fun j => !(ieq (l.getD j 0) n)) l.length
    (fun j h3 r => by
      simp only [L_s_l00Has_1]
      rw [ilt_nat h3, ix_nat h3, iadd_nat (by omega), opt_bind_some, cond_t, bif_not])
    (fun r => by simp only [L_s_l00Has_1, ilt_self, cond_f]) (by omega)
  rw [show ((0 : Nat) : Int) = 0 from rfl] at this
  rw [this]
  cases allFrom (fun j => !(ieq (l.getD j 0) n)) 0 l.length <;> rfl
theorem c_Contains (l : List Int) (n : Int) (h : l.length ≤ 1048576) : g_slices_Contains_int64_int64 l n = some (hasB l n) := by
  unfold g_slices_Contains_int64_int64 g_slices_Index_int64_int64 hasB
  simp only [opt_bind_assoc, opt_bind_cond, opt_bind_some]
  exact contains_of (step := L_slices_Index_int64_int64_1) (fun i => ((l, (n, (0, ((l.length : Int), ((i : Int), ()))))), ())) 0 (fun j => !(ieq (l.getD j 0) n)) l.length
    (fun j h3 r => by
      simp only [L_slices_Index_int64_int64_1]
      rw [ilt_nat h3, ix_nat h3, iadd_nat (by omega), opt_bind_some, cond_t, bif_not, ieq_comm])
    (fun r => by simp only [L_slices_Index_int64_int64_1, ilt_self, cond_f]) (by omega)

/-! pigeons -/
theorem few_nodup : ∀ (n : Nat) (l : List Int), l.Nodup → (∀ x, x ∈ l → 0 ≤ x ∧ x < (n : Int)) → l.length ≤ n
  | 0, l, _, h => by
    cases l with
    | nil => simp
    | cons x l => have := h x (by simp); omega
  | n + 1, l, hn, h => by
    have ih := few_nodup n (l.erase (n : Int)) (hn.erase _) fun x hx => by
      rw [hn.mem_erase_iff] at hx
      have := h x hx.2
      omega
    by_cases hm : (n : Int) ∈ l
    · rw [List.length_erase_of_mem hm] at ih
      omega
    · rw [List.erase_of_not_mem hm] at ih
      omega

/-- States that are reached: none twice, and all of the machine. -/
structure Good (m : dMachine) (r : List Int) : Prop where
  nd : r.Nodup
  inn : ∀ x, x ∈ r → 0 ≤ x ∧ x < (m.2.1.length : Int)
theorem Good.len {m : dMachine} (h : machOK m = true) {r : List Int} (hr : Good m r) : r.length ≤ 8 := by
  have h1 := few_nodup m.2.1.length r hr.nd hr.inn
  obtain ⟨_, h2, _⟩ := machOK_T h
  omega
theorem Good.add {m : dMachine} {r : List Int} (hr : Good m r) {x : Int} (hx : 0 ≤ x ∧ x < (m.2.1.length : Int)) (hn : hasB r x = false) : Good m (r ++ [x]) := by
  have hnm : x ∉ r := fun h => by
    have := hasB_T.2 h
    rw [hn] at this; cases this
  refine ⟨List.nodup_append.2 ⟨hr.nd, by simp, fun a ha b hb => ?_⟩, fun y hy => ?_⟩
  · simp at hb
    subst hb
    rintro rfl
    exact hnm ha
  · rcases List.mem_append.1 hy with h1 | h1
    · exact hr.inn y h1
    · simp at h1
      subst h1
      exact hx

theorem reach_inner {m : dMachine} (h : machOK m = true) {i : Nat} {r : List Int} (hr : Good m r) (hi : i < r.length) :
    Ret2 (iter L_s_ReachedStates_2 fuel (((i : Int), ((m.2.2.1.length : Int), (0, ()))), ((m, ()), (r, ())))) (iter L_i_ReachedStates_2 fuel (((i : Int), (m.2.2.1, ((m.2.2.1.length : Int), (0, ())))), ((m, ()), (r, ())))) fun o o' =>
      o = o' ∧ ∃ r', Good m r' ∧ i < r'.length ∧ o = (((i : Int), ()), ((m, ()), (r', ()))) := by
  obtain ⟨_, _, hm3, _, _, hm6⟩ := machOK_T h
  refine Ret2.iter (fun n d d' => ∃ (j : Nat) (r : List Int), Good m r ∧ i < r.length ∧ j ≤ m.2.2.1.length ∧ n = m.2.2.1.length - j ∧ d = (((i : Int), ((m.2.2.1.length : Int), ((j : Int), ()))), ((m, ()), (r, ()))) ∧ d' = (((i : Int), (m.2.2.1, ((m.2.2.1.length : Int), ((j : Int), ())))), ((m, ()), (r, ())))) _ ?_ fuel m.2.2.1.length _ _ ⟨0, r, hr, hi, by omega, by omega, rfl, rfl⟩ (by unfold fuel; omega)
  rintro f f' n d d' ⟨j, r, hr, hi, hj, hn, rfl, rfl⟩ ih
  have hl := hr.len h
  simp only [L_s_ReachedStates_2, L_i_ReachedStates_2]
  refine Ret2.cond rfl (fun hc => ?_) fun hc => Ret2.pure ⟨rfl, r, hr, hi, rfl⟩
  (simp only [ilt_T, ilt_F, ile_T, ile_F, ieq_T, ieq_F, bnot_T, bnot_F, ble_T, ble_F, nz_T, nz_F, nonneg_T, nonneg_F] at hc)
  have hjl : j < m.2.2.1.length := by omega
  rw [ix_nat hjl, iadd_nat (by omega), opt_bind_some, opt_bind_some]
  have hx := hm6 j hjl
  unfold ruleAt ruleOK at hx
  simp only [bif_T, l00In_T, ieq_F, reduceCtorEq, and_false, or_false, false_or] at hx
  generalize m.2.2.1.getD j zRule = x at *
  have hri : 0 ≤ r.getD i 0 ∧ r.getD i 0 < (m.2.1.length : Int) := hr.inn _ (by
    rw [List.getD_eq_getElem?_getD, List.getElem?_eq_getElem hi]; exact List.getElem_mem ..)
  rw [ix_nat hi, c_s_l00Has r _ (by omega), c_Contains r _ (by omega), ble_t (by omega)]
  simp only [opt_bind_some, cond_t]
  rw [ix_ok hri.1 hri.2]
  simp only [opt_bind_some]
  have skip := ih (n - 1) (((i : Int), ((m.2.2.1.length : Int), (((j + 1 : Nat) : Int), ()))), ((m, ()), (r, ()))) (((i : Int), (m.2.2.1, ((m.2.2.1.length : Int), (((j + 1 : Nat) : Int), ())))), ((m, ()), (r, ()))) (by omega) ⟨j + 1, r, hr, hi, by omega, by omega, rfl, rfl⟩
  have grow : hasB r x.2.1 = false → _ := fun hh => ih (n - 1) (((i : Int), ((m.2.2.1.length : Int), (((j + 1 : Nat) : Int), ()))), ((m, ()), (r ++ [x.2.1], ()))) (((i : Int), (m.2.2.1, ((m.2.2.1.length : Int), (((j + 1 : Nat) : Int), ())))), ((m, ()), (r ++ [x.2.1], ()))) (by omega) ⟨j + 1, r ++ [x.2.1], hr.add (by omega) hh, by simp; omega, by omega, by omega, rfl, rfl⟩
  have tail : Ret2 (bif ieq x.2.2.1 3 then bif (m.2.1.getD (r.getD i 0).toNat zState).2.2.1 then f (((i : Int), ((m.2.2.1.length : Int), (((j + 1 : Nat) : Int), ()))), ((m, ()), (r, ()))) else bif hasB r x.2.1 then f (((i : Int), ((m.2.2.1.length : Int), (((j + 1 : Nat) : Int), ()))), ((m, ()), (r, ()))) else f (((i : Int), ((m.2.2.1.length : Int), (((j + 1 : Nat) : Int), ()))), ((m, ()), (r ++ [x.2.1], ()))) else bif hasB r x.2.1 then f (((i : Int), ((m.2.2.1.length : Int), (((j + 1 : Nat) : Int), ()))), ((m, ()), (r, ()))) else f (((i : Int), ((m.2.2.1.length : Int), (((j + 1 : Nat) : Int), ()))), ((m, ()), (r ++ [x.2.1], ()))))
      (bif !(ieq x.2.2.1 3) then bif !(hasB r x.2.1) then f' (((i : Int), (m.2.2.1, ((m.2.2.1.length : Int), (((j + 1 : Nat) : Int), ())))), ((m, ()), (r ++ [x.2.1], ()))) else f' (((i : Int), (m.2.2.1, ((m.2.2.1.length : Int), (((j + 1 : Nat) : Int), ())))), ((m, ()), (r, ()))) else bif !((m.2.1.getD (r.getD i 0).toNat zState).2.2.1) then bif !(hasB r x.2.1) then f' (((i : Int), (m.2.2.1, ((m.2.2.1.length : Int), (((j + 1 : Nat) : Int), ())))), ((m, ()), (r ++ [x.2.1], ()))) else f' (((i : Int), (m.2.2.1, ((m.2.2.1.length : Int), (((j + 1 : Nat) : Int), ())))), ((m, ()), (r, ()))) else f' (((i : Int), (m.2.2.1, ((m.2.2.1.length : Int), (((j + 1 : Nat) : Int), ())))), ((m, ()), (r, ())))) fun o o' =>
      o = o' ∧ ∃ r', Good m r' ∧ i < r'.length ∧ o = (((i : Int), ()), ((m, ()), (r', ()))) := by
    cases ieq x.2.2.1 3 <;> cases (m.2.1.getD (r.getD i 0).toNat zState).2.2.1 <;> cases hh : hasB r x.2.1 <;> first | exact skip | exact grow hh
  by_cases h1 : x.1 = -1
  · rw [ile_f (by omega), ieq_t h1]
    exact tail
  · rw [ile_t (by omega), ieq_f h1, cond_t, cond_f]
    cases ieq x.1 (r.getD i 0)
    · exact skip
    · exact tail

theorem reach_outer {m : dMachine} (h : machOK m = true) {st : Int} (hs : 0 ≤ st ∧ st < (m.2.1.length : Int)) :
    Ret2 (iter L_s_ReachedStates_1 fuel ((0, ()), ((m, ()), ([st], ())))) (iter L_i_ReachedStates_1 fuel ((0, ()), ((m, ()), ([st], ())))) fun o o' => o = o' ∧ Good m o.2.1 := by
  refine Ret2.iter (fun n d d' => ∃ (i : Nat) (r : List Int), Good m r ∧ i ≤ r.length ∧ n = 8 - i ∧ d = (((i : Int), ()), ((m, ()), (r, ()))) ∧ d' = (((i : Int), ()), ((m, ()), (r, ())))) _ ?_ fuel 8 _ _ ⟨0, [st], ⟨by simp, fun x hx => by simp at hx; subst hx; exact hs⟩, by simp, by omega, rfl, rfl⟩ (by unfold fuel; omega)
  rintro f f' n d d' ⟨i, r, hr, hi, hn, rfl, rfl⟩ ih
  have hl := hr.len h
  simp only [L_s_ReachedStates_1, L_i_ReachedStates_1]
  refine Ret2.cond rfl (fun hc => ?_) fun hc => Ret2.pure ⟨rfl, hr⟩
  (simp only [ilt_T, ilt_F, ile_T, ile_F, ieq_T, ieq_F, bnot_T, bnot_F, ble_T, ble_F, nz_T, nz_F, nonneg_T, nonneg_F] at hc)
  refine Ret2.bind' (reach_inner h hr (by omega)) ?_
  rintro y y' ⟨rfl, r', hr', hi', rfl⟩
  have hl' := hr'.len h
  simp only []
  rw [iadd_nat (by omega)]
  exact ih (n - 1) _ _ (by omega) ⟨i + 1, r', hr', by omega, by omega, rfl, rfl⟩

theorem put_loop (l : List Int) (hl : l.length ≤ 1048576) : ∀ (suf pre acc : List Int) (N : Nat), l = pre ++ suf → acc.length ≤ pre.length → suf.length < N →
    iter L_s_ReachedStates_3 N (((l.length : Int), ((pre.length : Int), ())), (l, (acc, ()))) = some ((), (suf.foldl putI acc, ()))
  | [], pre, acc, N, he, ha, hN => by
    obtain _ | N := N
    · omega
    rw [List.append_nil] at he
    subst he
    rw [iter_succ]
    simp only [L_s_ReachedStates_3, ilt_self, cond_f]
    rfl
  | x :: suf, pre, acc, N, he, ha, hN => by
    obtain _ | N := N
    · omega
    have hpl : pre.length < l.length := by rw [he]; simp
    have hx : l.getD pre.length 0 = x := by rw [he]; exact getD_mid ..
    have hp := putI_len acc x
    have ih := put_loop l hl suf (pre ++ [x]) (putI acc x) N (by rw [he]; simp) (by simp; omega) (by simp at hN; omega)
    rw [List.length_append] at ih
    rw [iter_succ]
    simp only [L_s_ReachedStates_3]
    rw [ilt_nat hpl, ix_nat hpl, iadd_nat (by omega)]
    simp only [opt_bind_some, cond_t, hx]
    rw [c_s_l00Put acc x (by omega), opt_bind_some]
    exact ih

theorem e_ReachedStates (m : dMachine) (st : Int) (h : (z_Machine m : Int) ≤ 1048576) (hok : okPs [.ro true tMachine, .ro false (.int .i64)] (m, st, ())) : Same (g_s_ReachedStates m st) (g_i_ReachedStates m st) fun y => szL z_I64 y.1 ≤ 1048576 := by
  have h0 : szL z_I64 [] ≤ 1048576 := by simp [szL]
  unfold g_s_ReachedStates g_i_ReachedStates g_i_hasState
  rw [c_s_l07Is (by omega), c_i_ValidMachine (by omega), opt_bind_some]
  simp only [opt_bind_some]
  cases hm : machOK m
  · exact Same.pure h0
  have hm2 := (machOK_T hm).2.1
  simp only [bnot_t, cond_f, cond_t]
  rw [isub_ok (by omega) (by omega)]
  by_cases hs : 0 ≤ st ∧ st < (m.2.1.length : Int)
  rotate_left
  · rw [(l00In_F _ _ _).mpr (by omega), bnot_f, cond_t]
    by_cases h1 : 0 ≤ st
    · rw [ile_t h1, ilt_f (by omega)]; exact Same.pure h0
    · rw [ile_f (by omega)]; exact Same.pure h0
  rw [(l00In_T _ _ _).mpr (by omega), ile_t hs.1, ilt_t hs.2]
  simp only [bnot_t, cond_f, cond_t, opt_bind_some]
  obtain ⟨o, o', ho, ho', rfl, hg⟩ := reach_outer hm hs
  have hl := hg.len hm
  rw [ho, ho', opt_bind_some, opt_bind_some]
  have := put_loop o.2.1 (by omega) o.2.1 [] [] fuel rfl (Nat.le_refl _) (by unfold fuel; omega)
  rw [show (([] : List Int).length : Int) = 0 from rfl] at this
  rw [this, opt_bind_some]
  unfold g_sortInt64
  rw [ble_t (by omega), cond_t, opt_bind_some]
  have e : o.2.1.foldl putI [] = sortI o.2.1 := put_sort hg.nd
  dsimp only
  rw [e]
  refine Same.pure ?_
  show szL (fun _ => 0) (sortI o.2.1) ≤ _
  have hlen : (sortI o.2.1).length = o.2.1.length := List.length_mergeSort _
  rw [szL_zero, hlen]; omega
end Go.Fw
