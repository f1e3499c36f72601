/- Plain facts for printed texts: indices, loops over lists, what the laws' own functions do (copy, compare, measure, mark, hold). No condition. -/
import Derived.Test.YtcbpdhhipkdofaaFwExt
namespace Go.Fw

theorem wrap_i64 {n : Int} (h : -9223372036854775808 ≤ n) (h' : n < 9223372036854775808) : IntKind.i64.wrap n = n := by
  rw [IntKind.wrap_i64]; omega

theorem iadd_ok {a b : Int} (h : -9223372036854775808 ≤ a + b) (h' : a + b < 9223372036854775808) : iadd .i64 a b = a + b := wrap_i64 h h'
theorem isub_ok {a b : Int} (h : -9223372036854775808 ≤ a - b) (h' : a - b < 9223372036854775808) : isub .i64 a b = a - b := wrap_i64 h h'
theorem imul_ok {a b : Int} (h : -9223372036854775808 ≤ a * b) (h' : a * b < 9223372036854775808) : imul .i64 a b = a * b := wrap_i64 h h'
theorem iconv_ok {a : Int} (h : -9223372036854775808 ≤ a) (h' : a < 9223372036854775808) : iconv .i64 a = a := wrap_i64 h h'

theorem ix_ok {i : Int} {n : Nat} (h : 0 ≤ i) (h' : i < n) : ix i n = some i.toNat := by
  unfold ix; rw [decide_eq_true h, decide_eq_true h']; rfl
theorem ix_no {i : Int} {n : Nat} (h : ¬ (0 ≤ i ∧ i < n)) : ix i n = none := by
  unfold ix
  by_cases h0 : 0 ≤ i
  · rw [decide_eq_true h0, decide_eq_false (fun hh => h ⟨h0, hh⟩)]; rfl
  · rw [decide_eq_false h0]; rfl
theorem ilt_t {a b : Int} (h : a < b) : ilt a b = true := decide_eq_true h
theorem ilt_f {a b : Int} (h : b ≤ a) : ilt a b = false := decide_eq_false (by omega)
theorem ile_t {a b : Int} (h : a ≤ b) : ile a b = true := decide_eq_true h
theorem ile_f {a b : Int} (h : b < a) : ile a b = false := decide_eq_false (by omega)
theorem ieq_self (a : Int) : ieq a a = true := by simp [ieq]
theorem ieq_t {a b : Int} (h : a = b) : ieq a b = true := by simp [ieq, h]
theorem ieq_f {a b : Int} (h : a ≠ b) : ieq a b = false := by simp [ieq, h]
theorem nz_t {a : Int} (h : a ≠ 0) : nz a = true := by simp [nz, h]
theorem mkOk_t {n m : Int} (h0 : 0 ≤ n) (h1 : n ≤ m) (h2 : m ≤ 4294967296) : mkOk n m = true := by simp [mkOk, h0, h1, h2]
theorem ble_t {n m : Nat} (h : n ≤ m) : Nat.ble n m = true := Nat.ble_eq_true_of_le h

theorem opt_bind_some {α β : Type} (x : α) (f : α → Option β) : Option.bind (some x) f = f x := rfl
theorem opt_bind_none {α β : Type} (f : α → Option β) : Option.bind none f = none := rfl
theorem opt_bind_pure {α : Type} (x : Option α) : (Option.bind x fun y => some y) = x := by cases x <;> rfl
theorem bnot_t : (!true) = false := rfl
theorem bnot_f : (!false) = true := rfl
theorem cond_t {α : Type} (a b : α) : (bif true then a else b) = a := rfl
theorem cond_f {α : Type} (a b : α) : (bif false then a else b) = b := rfl
theorem cond_same {α : Type} (c : Bool) (a : α) : (bif c then a else a) = a := by cases c <;> rfl
theorem beqB_self (b : Bool) : (b == b) = true := by cases b <;> rfl

theorem feq_fofInt (k : FloatKind) (n : Int) : feq k (fofInt k n) (fofInt k n) = true := by
  rw [feq_self, show isNan k (fofInt k n) = false from write_num_not_nan k _ _ _]; rfl

/-! ### an element in the middle -/
section mid
variable {α : Type} (pre : List α) (x : α) (suf : List α)
theorem ix_mid : ix (pre.length : Int) (pre ++ x :: suf).length = some pre.length := by
  rw [ix_ok (by omega) (by simp; omega)]; simp
theorem ilt_mid : ilt (pre.length : Int) ((pre ++ x :: suf).length : Int) = true := ilt_t (by simp; omega)
theorem ilt_end : ilt (pre.length : Int) (pre.length : Int) = false := ilt_f (by omega)
theorem getD_mid (z : α) : (pre ++ x :: suf).getD pre.length z = x := by simp [List.getD_eq_getElem?_getD]
theorem set_mid (y : α) : (pre ++ x :: suf).set pre.length y = pre ++ y :: suf := by simp
end mid

/-! ### sums over lists -/
def sumL {α : Type} (c : α → Nat) : List α → Nat
  | [] => 0
  | x :: r => c x + sumL c r
/-- The measure of a slice: its elements, and what they hold. -/
def szL {α : Type} (s : α → Nat) : List α → Nat
  | [] => 0
  | x :: r => 1 + s x + szL s r
def mkL {α : Type} (m : α → Int → α) (c : α → Nat) : List α → Int → List α
  | [], _ => []
  | x :: r, k => m x k :: mkL m c r (k + c x)
theorem sumL_le {α : Type} {c s : α → Nat} (h : ∀ x, c x ≤ 16 * (1 + s x)) : ∀ l, sumL c l ≤ 16 * szL s l
  | [] => Nat.zero_le _
  | x :: r => by have := h x; have := sumL_le h r; simp only [sumL, szL]; omega
theorem szL_len {α : Type} {s : α → Nat} : ∀ l, l.length ≤ szL s l
  | [] => Nat.zero_le _
  | x :: r => by have := szL_len (s := s) r; simp only [List.length_cons, szL]; omega
theorem szL_mem {α : Type} {s : α → Nat} : ∀ {l : List α} {x : α}, x ∈ l → s x ≤ szL s l
  | y :: r, x, h => by
    cases h with
    | head => simp only [szL]; omega
    | tail _ h => have := szL_mem (s := s) h; simp only [szL]; omega
theorem szL_zero {α : Type} : ∀ l : List α, szL (fun _ => 0) l = l.length
  | [] => rfl
  | x :: r => by have := szL_zero r; simp only [szL, List.length_cons]; omega
theorem szL_sum {α : Type} (s : α → Nat) : ∀ l, szL s l = l.length + sumL s l
  | [] => rfl
  | x :: r => by have := szL_sum s r; simp only [szL, sumL, List.length_cons]; omega

/-! ### loops -/
set_option linter.unusedSimpArgs false
theorem iter_succ {D O : Type} (step : (D → Option O) → D → Option O) (n : Nat) (d : D) : iter step (n + 1) d = step (iter step n) d := rfl

/-- A loop that ends, and what it keeps. -/
theorem iter_inv {D O : Type} {step : (D → Option O) → D → Option O} (P : Nat → D → Prop) (Q : O → Prop)
    (h : ∀ n d, P n d → (∃ o, Q o ∧ ∀ r, step r d = some o) ∨ (∃ d' m, m < n ∧ P m d' ∧ ∀ r, step r d = r d')) :
    ∀ N n d, n < N → P n d → ∃ o, iter step N d = some o ∧ Q o := by
  intro N
  induction N with
  | zero => intro n d h0; omega
  | succ N ih =>
    intro n d hn hp
    rw [iter_succ]
    rcases h n d hp with ⟨o, hq, hs⟩ | ⟨d', m, hm, hp', hs⟩
    · exact ⟨o, hs _, hq⟩
    · rw [hs]; exact ih m d' (by omega) hp'

/-- Two loops side by side. -/
theorem iter_inv2 {D O D' O' : Type} {step : (D → Option O) → D → Option O} {step' : (D' → Option O') → D' → Option O'} (P : Nat → D → D' → Prop) (Q : O → O' → Prop)
    (h : ∀ n d e, P n d e → (∃ o o', Q o o' ∧ (∀ r, step r d = some o) ∧ ∀ r, step' r e = some o') ∨ (∃ d' e' m, m < n ∧ P m d' e' ∧ (∀ r, step r d = r d') ∧ ∀ r, step' r e = r e')) :
    ∀ N n d e, n < N → P n d e → ∃ o o', iter step N d = some o ∧ iter step' N e = some o' ∧ Q o o' := by
  intro N
  induction N with
  | zero => intro n d e h0; omega
  | succ N ih =>
    intro n d e hn hp
    rw [iter_succ, iter_succ]
    rcases h n d e hp with ⟨o, o', hq, hs, hs'⟩ | ⟨d', e', m, hm, hp', hs, hs'⟩
    · exact ⟨o, o', hs _, hs' _, hq⟩
    · rw [hs, hs']; exact ih m d' e' (by omega) hp'

section laws
variable {α : Type}
theorem to_loop {step : ((List α × Int × Unit) × (List α × Unit) → Option (Unit × (List α × Unit))) → (List α × Int × Unit) × (List α × Unit) → Option (Unit × (List α × Unit))} {z : α} {p : α → Prop}
    (h1 : ∀ rec' pre x suf r, p x → (pre ++ x :: suf).length < 4611686018427387904 → step rec' ((pre ++ x :: suf, ((pre.length : Int), ())), (pre ++ z :: r, ())) = rec' ((pre ++ x :: suf, ((pre.length : Int) + 1, ())), (pre ++ x :: r, ())))
    (h2 : ∀ rec' a, step rec' ((a, ((a.length : Int), ())), (a, ())) = some ((), (a, ()))) :
    ∀ (suf pre : List α) (n : Nat), (∀ x ∈ suf, p x) → (pre ++ suf).length < 4611686018427387904 → suf.length < n →
      iter step n ((pre ++ suf, ((pre.length : Int), ())), (pre ++ List.replicate suf.length z, ())) = some ((), (pre ++ suf, ())) := by
  intro suf
  induction suf with
  | nil =>
    intro pre n _h2 _h3 _h4
    obtain _ | n := n
    · simp only [List.length_nil, List.length_cons] at *; omega
    rw [iter_succ]
    simp only [List.append_nil, List.length_nil, List.replicate_zero]
    exact h2 _ _
  | cons x suf ih =>
    intro pre n hp hb hn
    obtain _ | n := n
    · simp only [List.length_nil, List.length_cons] at hn; omega
    rw [iter_succ, List.length_cons, List.replicate_succ, h1 _ _ _ _ _ (hp x (.head _)) hb]
    have := ih (pre ++ [x]) n (fun y hy => hp y (.tail _ hy)) (by simpa using hb) (by simp at hn; omega)
    simpa using this

theorem eq_loop {step : ((List α × List α × Bool × Int × Unit) × Unit → Option (Bool × ((Bool × Unit) × Unit))) → (List α × List α × Bool × Int × Unit) × Unit → Option (Bool × ((Bool × Unit) × Unit))} {p : α → Prop}
    (h1 : ∀ rec' pre x suf t, p x → (pre ++ x :: suf).length < 4611686018427387904 → step rec' ((pre ++ x :: suf, (pre ++ x :: suf, (t, ((pre.length : Int), ())))), ()) = rec' ((pre ++ x :: suf, (pre ++ x :: suf, (t, ((pre.length : Int) + 1, ())))), ()))
    (h2 : ∀ rec' a t, step rec' ((a, (a, (t, ((a.length : Int), ())))), ()) = some (false, ((t, ()), ()))) :
    ∀ (suf pre : List α) (n : Nat) (t : Bool), (∀ x ∈ suf, p x) → (pre ++ suf).length < 4611686018427387904 → suf.length < n →
      iter step n ((pre ++ suf, (pre ++ suf, (t, ((pre.length : Int), ())))), ()) = some (false, ((t, ()), ())) := by
  intro suf
  induction suf with
  | nil =>
    intro pre n t _h3 _h4 _h5
    obtain _ | n := n
    · simp only [List.length_nil, List.length_cons] at *; omega
    rw [iter_succ, List.append_nil]
    exact h2 _ _ _
  | cons x suf ih =>
    intro pre n t hp hb hn
    obtain _ | n := n
    · simp only [List.length_nil, List.length_cons] at hn; omega
    rw [iter_succ, h1 _ _ _ _ _ (hp x (.head _)) hb]
    have := ih (pre ++ [x]) n t (fun y hy => hp y (.tail _ hy)) (by simpa using hb) (by simp at hn; omega)
    simpa using this

theorem sz_loop {step : ((List α × Int × Int × Int × Unit) × Unit → Option (Bool × ((Int × Int × Unit) × Unit))) → (List α × Int × Int × Int × Unit) × Unit → Option (Bool × ((Int × Int × Unit) × Unit))} {s : α → Nat} {p : α → Prop}
    (h1 : ∀ rec' pre x suf (left t : Int), p x → 0 ≤ left → left < 4611686018427387904 → (pre ++ x :: suf).length < 4611686018427387904 → step rec' ((pre ++ x :: suf, (left, (t, ((pre.length : Int), ())))), ()) =
      if (s x : Int) ≤ left then rec' ((pre ++ x :: suf, (left - s x, (t, ((pre.length : Int) + 1, ())))), ()) else some (true, ((-1, (-1, ())), ())))
    (h2 : ∀ rec' a left t, step rec' ((a, (left, (t, ((a.length : Int), ())))), ()) = some (false, ((left, (t, ())), ()))) :
    ∀ (suf pre : List α) (n : Nat) (left t : Int), (∀ x ∈ suf, p x) → 0 ≤ left → left < 4611686018427387904 → (pre ++ suf).length < 4611686018427387904 → suf.length < n →
      iter step n ((pre ++ suf, (left, (t, ((pre.length : Int), ())))), ()) = if (sumL s suf : Int) ≤ left then some (false, ((left - sumL s suf, (t, ())), ())) else some (true, ((-1, (-1, ())), ())) := by
  intro suf
  induction suf with
  | nil =>
    intro pre n left t _h4 h0 _h6 _h7 _h8
    obtain _ | n := n
    · simp only [List.length_nil, List.length_cons] at *; omega
    rw [iter_succ, List.append_nil]
    refine (h2 _ _ _ _).trans ?_
    rw [sumL, if_pos (by simpa using h0)]
    simp
  | cons x suf ih =>
    intro pre n left t hp h0 h3 hb hn
    obtain _ | n := n
    · simp only [List.length_nil, List.length_cons] at hn; omega
    rw [iter_succ, h1 _ _ _ _ _ _ (hp x (.head _)) h0 h3 hb]
    by_cases hc : (s x : Int) ≤ left
    · rw [if_pos hc]
      have := ih (pre ++ [x]) n (left - s x) t (fun y hy => hp y (.tail _ hy)) (by omega) (by omega) (by simpa using hb) (by simp at hn; omega)
      simp only [List.append_assoc, List.singleton_append, List.length_append, List.length_cons, List.length_nil, Nat.zero_add, Int.natCast_add, Int.natCast_one] at this
      rw [this]
      simp only [sumL, Int.natCast_add, Int.sub_sub]
      by_cases hd : (s x : Int) + sumL s suf ≤ left
      · have hd' : (sumL s suf : Int) ≤ left - s x := by omega
        simp only [hd, hd', if_true]
      · have hd' : ¬ ((sumL s suf : Int) ≤ left - s x) := by omega
        simp only [hd, hd', if_false]
    · rw [if_neg hc, if_neg (by simp only [sumL, Int.natCast_add]; omega)]

theorem mark_loop {step : ((Int × Int × Unit) × (List α × Unit) → Option ((Int × Unit) × (List α × Unit))) → (Int × Int × Unit) × (List α × Unit) → Option ((Int × Unit) × (List α × Unit))} {m : α → Int → α} {c : α → Nat} {p : α → Prop}
    (h1 : ∀ rec' pre x suf (k : Int), p x → 0 ≤ k → k + c x < 4611686018427387904 → (pre ++ x :: suf).length < 4611686018427387904 → step rec' ((k, ((pre.length : Int), ())), (pre ++ x :: suf, ())) = rec' ((k + c x, ((pre.length : Int) + 1, ())), (pre ++ m x k :: suf, ())))
    (h2 : ∀ rec' a k, step rec' ((k, ((a.length : Int), ())), (a, ())) = some ((k, ()), (a, ()))) :
    ∀ (suf pre : List α) (n : Nat) (k : Int), (∀ x ∈ suf, p x) → 0 ≤ k → k + sumL c suf < 4611686018427387904 → (pre ++ suf).length < 4611686018427387904 → suf.length < n →
      iter step n ((k, ((pre.length : Int), ())), (pre ++ suf, ())) = some ((k + sumL c suf, ()), (pre ++ mkL m c suf k, ())) := by
  intro suf
  induction suf with
  | nil =>
    intro pre n k _h3 _h4 _h5 _h6 _h7
    obtain _ | n := n
    · simp only [List.length_nil, List.length_cons] at *; omega
    rw [iter_succ, List.append_nil]
    refine (h2 _ _ _).trans ?_
    simp [sumL, mkL]
  | cons x suf ih =>
    intro pre n k hp h0 hk hb hn
    obtain _ | n := n
    · simp only [List.length_nil, List.length_cons] at hn; omega
    simp only [sumL, Int.natCast_add] at hk
    rw [iter_succ, h1 _ _ _ _ _ (hp x (.head _)) h0 (by omega) hb]
    have := ih (pre ++ [m x k]) n (k + c x) (fun y hy => hp y (.tail _ hy)) (by omega) (by omega) (by simpa using hb) (by simp at hn; omega)
    simp only [List.append_assoc, List.singleton_append, List.length_append, List.length_cons, List.length_nil, Nat.zero_add, Int.natCast_add, Int.natCast_one] at this
    rw [this]
    simp only [sumL, mkL, Int.natCast_add, Int.add_assoc]

theorem held_loop {step : ((List α × Int × Int × Int × Unit) × Unit → Option (Bool × ((Int × Int × Unit) × Unit))) → (List α × Int × Int × Int × Unit) × Unit → Option (Bool × ((Int × Int × Unit) × Unit))} {m : α → Int → α} {c : α → Nat} {p : α → Prop}
    (h1 : ∀ rec' pre x suf (k t : Int), p x → 0 ≤ k → k + c x < 4611686018427387904 → (pre ++ m x k :: suf).length < 4611686018427387904 → step rec' ((pre ++ m x k :: suf, (k, (t, ((pre.length : Int), ())))), ()) = rec' ((pre ++ m x k :: suf, (k + c x, (t, ((pre.length : Int) + 1, ())))), ()))
    (h2 : ∀ rec' a k t, step rec' ((a, (k, (t, ((a.length : Int), ())))), ()) = some (false, ((k, (t, ())), ()))) :
    ∀ (suf pre : List α) (n : Nat) (k t : Int), (∀ x ∈ suf, p x) → 0 ≤ k → k + sumL c suf < 4611686018427387904 → (pre ++ mkL m c suf k).length < 4611686018427387904 → suf.length < n →
      iter step n ((pre ++ mkL m c suf k, (k, (t, ((pre.length : Int), ())))), ()) = some (false, ((k + sumL c suf, (t, ())), ())) := by
  intro suf
  induction suf with
  | nil =>
    intro pre n k t _h4 _h5 _h6 _h7 _h8
    obtain _ | n := n
    · simp only [List.length_nil, List.length_cons] at *; omega
    simp only [mkL, List.append_nil]
    rw [iter_succ]
    refine (h2 _ _ _ _).trans ?_
    simp [sumL]
  | cons x suf ih =>
    intro pre n k t hp h0 hk hb hn
    obtain _ | n := n
    · simp only [List.length_nil, List.length_cons] at hn; omega
    simp only [sumL, Int.natCast_add] at hk
    simp only [mkL] at hb ⊢
    rw [iter_succ, h1 _ _ _ _ _ _ (hp x (.head _)) h0 (by omega) hb]
    have := ih (pre ++ [m x k]) n (k + c x) t (fun y hy => hp y (.tail _ hy)) (by omega) (by omega) (by simpa using hb) (by simp at hn; omega)
    simp only [List.append_assoc, List.singleton_append, List.length_append, List.length_cons, List.length_nil, Nat.zero_add, Int.natCast_add, Int.natCast_one] at this
    rw [this]
    simp only [sumL, Int.natCast_add, Int.add_assoc]
end laws

theorem mkL_length {α : Type} {m : α → Int → α} {c : α → Nat} : ∀ (l : List α) (k : Int), (mkL m c l k).length = l.length
  | [], _ => rfl
  | x :: r, k => by simp only [mkL, List.length_cons, mkL_length r]
end Go.Fw
