/- Numbers that are put to their places, and sorted ones. No condition. -/
import Derived.Test.YtobcfldhacdpiaaGreatBEq2
set_option linter.unusedVariables false
set_option linter.unusedSimpArgs false
namespace Go.Fw

/-- n is put to its place, once. -/
def putI : List Int → Int → List Int
  | [], n => [n]
  | x :: r, n => if n ≤ x then (if n < x then n :: x :: r else x :: r) else x :: putI r n

theorem mem_putI {x n : Int} : ∀ {l : List Int}, x ∈ putI l n ↔ x = n ∨ x ∈ l
  | [] => by simp [putI]
  | y :: l => by
    unfold putI
    split
    · split
      · simp
      · have : n = y := by omega
        subst this
        simp
    · simp only [List.mem_cons, mem_putI (l := l)]
      constructor
      · rintro (h | h | h) <;> simp [h]
      · rintro (h | h | h) <;> simp [h]
theorem putI_sorted {n : Int} : ∀ {l : List Int}, l.Pairwise (· < ·) → (putI l n).Pairwise (· < ·)
  | [], _ => by simp [putI]
  | y :: l, h => by
    rw [List.pairwise_cons] at h
    unfold putI
    split
    · split
      · rename_i h1 h2
        refine List.pairwise_cons.2 ⟨fun x hx => ?_, List.pairwise_cons.2 h⟩
        cases hx with
        | head => exact h2
        | tail _ hx => have := h.1 x hx; omega
      · exact List.pairwise_cons.2 h
    · rename_i h1
      refine List.pairwise_cons.2 ⟨fun x hx => ?_, putI_sorted h.2⟩
      rcases mem_putI.1 hx with rfl | hx
      · omega
      · exact h.1 x hx

/-- Rising lists with the same members are the same. -/
theorem rising_eq : ∀ {l m : List Int}, l.Pairwise (· < ·) → m.Pairwise (· < ·) → (∀ x, x ∈ l ↔ x ∈ m) → l = m
  | [], [], _, _, _ => rfl
  | [], y :: m, _, _, h => by have := (h y).2 (by simp); cases this
  | x :: l, [], _, _, h => by have := (h x).1 (by simp); cases this
  | x :: l, y :: m, hl, hm, h => by
    rw [List.pairwise_cons] at hl hm
    have hxy : x = y := by
      have h1 := (h x).1 (by simp)
      have h2 := (h y).2 (by simp)
      cases h1 with
      | head => rfl
      | tail _ h1 => cases h2 with
        | head => rfl
        | tail _ h2 => have := hm.1 x h1; have := hl.1 y h2; omega
    subst hxy
    congr 1
    refine rising_eq hl.2 hm.2 fun z => ⟨fun hz => ?_, fun hz => ?_⟩
    · have h1 := (h z).1 (by simp [hz])
      cases h1 with
      | head => have := hl.1 x hz; omega
      | tail _ h1 => exact h1
    · have h1 := (h z).2 (by simp [hz])
      cases h1 with
      | head => have := hm.1 x hz; omega
      | tail _ h1 => exact h1

/-- All of them put to their places. -/
def putAll (l : List Int) : List Int := l.foldl putI []
theorem foldl_put : ∀ (l acc : List Int), acc.Pairwise (· < ·) → (l.foldl putI acc).Pairwise (· < ·) ∧ ∀ x, x ∈ l.foldl putI acc ↔ x ∈ acc ∨ x ∈ l
  | [], acc, h => ⟨h, fun x => by simp⟩
  | y :: l, acc, h => by
    obtain ⟨h1, h2⟩ := foldl_put l (putI acc y) (putI_sorted h)
    refine ⟨h1, fun x => ?_⟩
    show x ∈ l.foldl putI (putI acc y) ↔ _
    rw [h2 x, mem_putI, List.mem_cons]
    constructor
    · rintro ((h | h) | h) <;> simp [h]
    · rintro (h | h | h) <;> simp [h]
theorem putAll_sorted (l : List Int) : (putAll l).Pairwise (· < ·) := (foldl_put l [] List.Pairwise.nil).1
theorem mem_putAll (l : List Int) (x : Int) : x ∈ putAll l ↔ x ∈ l := by
  have := (foldl_put l [] List.Pairwise.nil).2 x
  simpa [putAll] using this

theorem sortI_mem (l : List Int) (x : Int) : x ∈ sortI l ↔ x ∈ l := List.mem_mergeSort
theorem sortI_le (l : List Int) : (sortI l).Pairwise (· ≤ ·) := by
  have := List.pairwise_mergeSort (le := fun x y : Int => decide (x ≤ y)) (fun a b c h1 h2 => by simp only [decide_eq_true_eq] at *; omega) (fun a b => by simp only [Bool.or_eq_true, decide_eq_true_eq]; omega) l
  exact this.imp fun {a b} h => by simpa using h
theorem sortI_nodup {l : List Int} (h : l.Nodup) : (sortI l).Pairwise (· < ·) := by
  have h1 : (sortI l).Nodup := (List.mergeSort_perm l _).nodup_iff.2 h
  have h2 := sortI_le l
  unfold List.Nodup at h1
  exact (h1.and h2).imp fun {a b} h => by obtain ⟨h3, h4⟩ := h; omega
theorem put_sort {l : List Int} (h : l.Nodup) : putAll l = sortI l :=
  rising_eq (putAll_sorted l) (sortI_nodup h) fun x => by rw [mem_putAll, sortI_mem]

/-! l00Put -/
theorem put_done (l : List Int) (n : Int) (hl : l.length ≤ 1048576) : ∀ (suf pre acc : List Int) (N : Nat), l = pre ++ suf → acc.length ≤ pre.length + 1 → suf.length < N →
    iter L_s_l00Put_1 N ((l, (n, (true, ((pre.length : Int), ())))), (acc, ())) = some ((n, (true, ())), (acc ++ suf, ()))
  | [], pre, acc, N, he, ha, hN => by
    obtain _ | N := N
    · omega
    rw [List.append_nil] at he
    subst he
    rw [iter_succ]
    simp only [L_s_l00Put_1, ilt_self, cond_f, List.append_nil]
  | x :: suf, pre, acc, N, he, ha, hN => by
    obtain _ | N := N
    · omega
    have hpl : pre.length < l.length := by rw [he]; simp
    have hx : l.getD pre.length 0 = x := by rw [he]; exact getD_mid ..
    have ih := put_done l n hl suf (pre ++ [x]) (acc ++ [x]) N (by rw [he]; simp) (by simp; omega) (by simp at hN; omega)
    rw [List.length_append, List.append_assoc] at ih
    rw [iter_succ]
    simp only [L_s_l00Put_1]
    rw [ilt_nat hpl, ix_nat hpl, iadd_nat (by omega), ble_t (by omega)]
    simp only [opt_bind_some, cond_t, bnot_t, cond_f, hx]
    exact ih

theorem put_open (l : List Int) (n : Int) (hl : l.length ≤ 1048576) : ∀ (suf pre acc : List Int) (N : Nat), l = pre ++ suf → acc.length ≤ pre.length → suf.length < N →
    ∃ d acc', iter L_s_l00Put_1 N ((l, (n, (false, ((pre.length : Int), ())))), (acc, ())) = some ((n, (d, ())), (acc', ())) ∧ (bif !d then acc' ++ [n] else acc') = acc ++ putI suf n ∧ acc'.length ≤ acc.length + suf.length + 1
  | [], pre, acc, N, he, ha, hN => by
    obtain _ | N := N
    · omega
    rw [List.append_nil] at he
    subst he
    refine ⟨false, acc, ?_, rfl, by simp⟩
    rw [iter_succ]
    simp only [L_s_l00Put_1, ilt_self, cond_f]
  | x :: suf, pre, acc, N, he, ha, hN => by
    obtain _ | N := N
    · omega
    have hpl : pre.length < l.length := by rw [he]; simp
    have hx : l.getD pre.length 0 = x := by rw [he]; exact getD_mid ..
    rw [iter_succ]
    simp only [L_s_l00Put_1]
    rw [ilt_nat hpl, ix_nat hpl, iadd_nat (by omega)]
    simp only [opt_bind_some, cond_t, bnot_f, hx]
    unfold putI
    by_cases h1 : n ≤ x
    · rw [ile_t h1, if_pos h1, cond_t]
      by_cases h2 : n < x
      · rw [ilt_t h2, if_pos h2, cond_t, ble_t (by omega), cond_t, ble_t (by simp; omega), cond_t]
        have := put_done l n hl suf (pre ++ [x]) (acc ++ [n] ++ [x]) N (by rw [he]; simp) (by simp; omega) (by simp at hN; omega)
        rw [List.length_append] at this
        exact ⟨true, _, this, by simp, by simp; omega⟩
      · rw [ilt_f (by omega), if_neg h2, cond_f, ble_t (by omega), cond_t]
        have := put_done l n hl suf (pre ++ [x]) (acc ++ [x]) N (by rw [he]; simp) (by simp; omega) (by simp at hN; omega)
        rw [List.length_append] at this
        exact ⟨true, _, this, by simp, by simp⟩
    · rw [ile_f (by omega), if_neg h1, cond_f, ble_t (by omega), cond_t]
      obtain ⟨d, acc', h3, h4, h5⟩ := put_open l n hl suf (pre ++ [x]) (acc ++ [x]) N (by rw [he]; simp) (by simp; omega) (by simp at hN; omega)
      rw [List.length_append] at h3
      exact ⟨d, acc', h3, by rw [h4]; simp, by simp at h5; simp; omega⟩

theorem c_s_l00Put (l : List Int) (n : Int) (hl : l.length ≤ 1048576) : g_s_l00Put l n = some (putI l n) := by
  unfold g_s_l00Put
  obtain ⟨d, acc', h1, h2, h3⟩ := put_open l n hl l [] [] fuel rfl (Nat.le_refl _) (by unfold fuel; omega)
  rw [show (([] : List Int).length : Int) = 0 from rfl] at h1
  rw [h1, opt_bind_some]
  rw [List.nil_append] at h2
  rw [← h2]
  cases d
  · simp only [bnot_f, cond_t]
    rw [ble_t (by simp at h3; omega), cond_t]
  · rfl

theorem putI_len (l : List Int) (n : Int) : (putI l n).length ≤ l.length + 1 := by
  induction l with
  | nil => simp [putI]
  | cons x l ih =>
    unfold putI
    split
    · split <;> simp
    · simp; omega
end Go.Fw
