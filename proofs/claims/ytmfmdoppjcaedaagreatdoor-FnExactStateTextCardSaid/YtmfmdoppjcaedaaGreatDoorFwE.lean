/- The abstract interpreter, its soundness, and plain facts: part 5. No condition. -/
import Derived.Test.YtmfmdoppjcaedaaGreatDoorFwD
/- Plain facts for printed texts: indices, loops over lists, what the laws' own functions do (copy, compare, measure, mark, hold). No condition. -/
namespace Go.Fw

theorem wrap_i64 {n : Int} (h : -9223372036854775808 ≤ n) (h' : n < 9223372036854775808) : IntKind.i64.wrap n = n := by
  rw [IntKind.wrap_i64]; omega

theorem iadd_ok {a b : Int} (h : -9223372036854775808 ≤ a + b) (h' : a + b < 9223372036854775808) : iadd .i64 a b = a + b := wrap_i64 h h'
theorem isub_ok {a b : Int} (h : -9223372036854775808 ≤ a - b) (h' : a - b < 9223372036854775808) : isub .i64 a b = a - b := wrap_i64 h h'
theorem ix_ok {i : Int} {n : Nat} (h : 0 ≤ i) (h' : i < n) : ix i n = some i.toNat := by
  unfold ix; rw [decide_eq_true h, decide_eq_true h']; rfl
theorem ilt_t {a b : Int} (h : a < b) : ilt a b = true := decide_eq_true h
theorem ilt_f {a b : Int} (h : b ≤ a) : ilt a b = false := decide_eq_false (by omega)
theorem ile_t {a b : Int} (h : a ≤ b) : ile a b = true := decide_eq_true h
theorem ile_f {a b : Int} (h : b < a) : ile a b = false := decide_eq_false (by omega)
theorem ieq_self (a : Int) : ieq a a = true := by simp [ieq]
theorem ieq_t {a b : Int} (h : a = b) : ieq a b = true := by simp [ieq, h]
theorem ieq_f {a b : Int} (h : a ≠ b) : ieq a b = false := by simp [ieq, h]
theorem mkOk_t {n m : Int} (h0 : 0 ≤ n) (h1 : n ≤ m) (h2 : m ≤ 4294967296) : mkOk n m = true := by simp [mkOk, h0, h1, h2]
theorem ble_t {n m : Nat} (h : n ≤ m) : Nat.ble n m = true := Nat.ble_eq_true_of_le h

theorem opt_bind_some {α β : Type} (x : α) (f : α → Option β) : Option.bind (some x) f = f x := rfl
theorem bnot_t : (!true) = false := rfl
theorem bnot_f : (!false) = true := rfl
theorem cond_t {α : Type} (a b : α) : (bif true then a else b) = a := rfl
theorem cond_f {α : Type} (a b : α) : (bif false then a else b) = b := rfl
theorem cond_same {α : Type} (c : Bool) (a : α) : (bif c then a else a) = a := by cases c <;> rfl
theorem beqB_self (b : Bool) : (b == b) = true := by cases b <;> rfl

/-! ### an element in the middle -/
section mid
variable {α : Type} (pre : List α) (x : α) (suf : List α)
theorem ix_mid : ix (pre.length : Int) (pre ++ x :: suf).length = some pre.length := by
  rw [ix_ok (by omega) (by simp; omega)]; simp
theorem ilt_mid : ilt (pre.length : Int) ((pre ++ x :: suf).length : Int) = true := ilt_t (by simp; omega)
theorem ilt_end : ilt (pre.length : Int) (pre.length : Int) = false := ilt_f (by omega)
theorem getD_mid (z : α) : (pre ++ x :: suf).getD pre.length z = x := by simp [List.getD_eq_getElem?_getD]
theorem set_mid (y : α) : (pre ++ x :: suf).set pre.length y = pre ++ y :: suf := by simp
end mid

/-! ### sums over lists -/
def sumL {α : Type} (c : α → Nat) : List α → Nat
  | [] => 0
  | x :: r => c x + sumL c r
/-- The measure of a slice: its elements, and what they hold. -/
def szL {α : Type} (s : α → Nat) : List α → Nat
  | [] => 0
  | x :: r => 1 + s x + szL s r
theorem sumL_le {α : Type} {c s : α → Nat} (h : ∀ x, c x ≤ 16 * (1 + s x)) : ∀ l, sumL c l ≤ 16 * szL s l
  | [] => Nat.zero_le _
  | x :: r => by have := h x; have := sumL_le h r; simp only [sumL, szL]; omega
theorem szL_len {α : Type} {s : α → Nat} : ∀ l, l.length ≤ szL s l
  | [] => Nat.zero_le _
  | x :: r => by have := szL_len (s := s) r; simp only [List.length_cons, szL]; omega
theorem szL_mem {α : Type} {s : α → Nat} : ∀ {l : List α} {x : α}, x ∈ l → s x ≤ szL s l
  | y :: r, x, h => by
    cases h with
    | head => simp only [szL]; omega
    | tail _ h => have := szL_mem (s := s) h; simp only [szL]; omega
theorem szL_zero {α : Type} : ∀ l : List α, szL (fun _ => 0) l = l.length
  | [] => rfl
  | x :: r => by have := szL_zero r; simp only [szL, List.length_cons]; omega
theorem szL_sum {α : Type} (s : α → Nat) : ∀ l, szL s l = l.length + sumL s l
  | [] => rfl
  | x :: r => by have := szL_sum s r; simp only [szL, sumL, List.length_cons]; omega

/-! ### loops -/
set_option linter.unusedSimpArgs false
theorem iter_succ {D O : Type} (step : (D → Option O) → D → Option O) (n : Nat) (d : D) : iter step (n + 1) d = step (iter step n) d := rfl

section laws
variable {α : Type}
theorem to_loop {step : ((List α × Int × Unit) × (List α × Unit) → Option (Unit × (List α × Unit))) → (List α × Int × Unit) × (List α × Unit) → Option (Unit × (List α × Unit))} {z : α} {p : α → Prop}
    (h1 : ∀ rec' pre x suf r, p x → (pre ++ x :: suf).length < 4611686018427387904 → step rec' ((pre ++ x :: suf, ((pre.length : Int), ())), (pre ++ z :: r, ())) = rec' ((pre ++ x :: suf, ((pre.length : Int) + 1, ())), (pre ++ x :: r, ())))
    (h2 : ∀ rec' a, step rec' ((a, ((a.length : Int), ())), (a, ())) = some ((), (a, ()))) :
    ∀ (suf pre : List α) (n : Nat), (∀ x ∈ suf, p x) → (pre ++ suf).length < 4611686018427387904 → suf.length < n →
      iter step n ((pre ++ suf, ((pre.length : Int), ())), (pre ++ List.replicate suf.length z, ())) = some ((), (pre ++ suf, ())) := by
  intro suf
  induction suf with
  | nil =>
    intro pre n _h2 _h3 _h4
    obtain _ | n := n
    · simp only [List.length_nil, List.length_cons] at *; omega
    rw [iter_succ]
    simp only [List.append_nil, List.length_nil, List.replicate_zero]
    exact h2 _ _
  | cons x suf ih =>
    intro pre n hp hb hn
    obtain _ | n := n
    · simp only [List.length_nil, List.length_cons] at hn; omega
    rw [iter_succ, List.length_cons, List.replicate_succ, h1 _ _ _ _ _ (hp x (.head _)) hb]
    have := ih (pre ++ [x]) n (fun y hy => hp y (.tail _ hy)) (by simpa using hb) (by simp at hn; omega)
    simpa using this

theorem eq_loop {step : ((List α × List α × Bool × Int × Unit) × Unit → Option (Bool × ((Bool × Unit) × Unit))) → (List α × List α × Bool × Int × Unit) × Unit → Option (Bool × ((Bool × Unit) × Unit))} {p : α → Prop}
    (h1 : ∀ rec' pre x suf t, p x → (pre ++ x :: suf).length < 4611686018427387904 → step rec' ((pre ++ x :: suf, (pre ++ x :: suf, (t, ((pre.length : Int), ())))), ()) = rec' ((pre ++ x :: suf, (pre ++ x :: suf, (t, ((pre.length : Int) + 1, ())))), ()))
    (h2 : ∀ rec' a t, step rec' ((a, (a, (t, ((a.length : Int), ())))), ()) = some (false, ((t, ()), ()))) :
    ∀ (suf pre : List α) (n : Nat) (t : Bool), (∀ x ∈ suf, p x) → (pre ++ suf).length < 4611686018427387904 → suf.length < n →
      iter step n ((pre ++ suf, (pre ++ suf, (t, ((pre.length : Int), ())))), ()) = some (false, ((t, ()), ())) := by
  intro suf
  induction suf with
  | nil =>
    intro pre n t _h3 _h4 _h5
    obtain _ | n := n
    · simp only [List.length_nil, List.length_cons] at *; omega
    rw [iter_succ, List.append_nil]
    exact h2 _ _ _
  | cons x suf ih =>
    intro pre n t hp hb hn
    obtain _ | n := n
    · simp only [List.length_nil, List.length_cons] at hn; omega
    rw [iter_succ, h1 _ _ _ _ _ (hp x (.head _)) hb]
    have := ih (pre ++ [x]) n t (fun y hy => hp y (.tail _ hy)) (by simpa using hb) (by simp at hn; omega)
    simpa using this

theorem sz_loop {step : ((List α × Int × Int × Int × Unit) × Unit → Option (Bool × ((Int × Int × Unit) × Unit))) → (List α × Int × Int × Int × Unit) × Unit → Option (Bool × ((Int × Int × Unit) × Unit))} {s : α → Nat} {p : α → Prop}
    (h1 : ∀ rec' pre x suf (left t : Int), p x → 0 ≤ left → left < 4611686018427387904 → (pre ++ x :: suf).length < 4611686018427387904 → step rec' ((pre ++ x :: suf, (left, (t, ((pre.length : Int), ())))), ()) =
      if (s x : Int) ≤ left then rec' ((pre ++ x :: suf, (left - s x, (t, ((pre.length : Int) + 1, ())))), ()) else some (true, ((-1, (-1, ())), ())))
    (h2 : ∀ rec' a left t, step rec' ((a, (left, (t, ((a.length : Int), ())))), ()) = some (false, ((left, (t, ())), ()))) :
    ∀ (suf pre : List α) (n : Nat) (left t : Int), (∀ x ∈ suf, p x) → 0 ≤ left → left < 4611686018427387904 → (pre ++ suf).length < 4611686018427387904 → suf.length < n →
      iter step n ((pre ++ suf, (left, (t, ((pre.length : Int), ())))), ()) = if (sumL s suf : Int) ≤ left then some (false, ((left - sumL s suf, (t, ())), ())) else some (true, ((-1, (-1, ())), ())) := by
  intro suf
  induction suf with
  | nil =>
    intro pre n left t _h4 h0 _h6 _h7 _h8
    obtain _ | n := n
    · simp only [List.length_nil, List.length_cons] at *; omega
    rw [iter_succ, List.append_nil]
    refine (h2 _ _ _ _).trans ?_
    rw [sumL, if_pos (by simpa using h0)]
    simp
  | cons x suf ih =>
    intro pre n left t hp h0 h3 hb hn
    obtain _ | n := n
    · simp only [List.length_nil, List.length_cons] at hn; omega
    rw [iter_succ, h1 _ _ _ _ _ _ (hp x (.head _)) h0 h3 hb]
    by_cases hc : (s x : Int) ≤ left
    · rw [if_pos hc]
      have := ih (pre ++ [x]) n (left - s x) t (fun y hy => hp y (.tail _ hy)) (by omega) (by omega) (by simpa using hb) (by simp at hn; omega)
      simp only [List.append_assoc, List.singleton_append, List.length_append, List.length_cons, List.length_nil, Nat.zero_add, Int.natCast_add, Int.natCast_one] at this
      rw [this]
      simp only [sumL, Int.natCast_add, Int.sub_sub]
      by_cases hd : (s x : Int) + sumL s suf ≤ left
      · have hd' : (sumL s suf : Int) ≤ left - s x := by omega
        simp only [hd, hd', if_true]
      · have hd' : ¬ ((sumL s suf : Int) ≤ left - s x) := by omega
        simp only [hd, hd', if_false]
    · rw [if_neg hc, if_neg (by simp only [sumL, Int.natCast_add]; omega)]

end laws

end Go.Fw
/- Floating point numbers: the order turned round; how great a result can be; what can be narrowed. No condition. -/
namespace Go.Fw
open Ieee

/-! ### how great a number can be -/
/-- Canonical words. -/
def okF (k : FloatKind) (x : Nat) : Prop := x < 2 ^ k.format.width ∧ canon k x = x
theorem okF.lt {k : FloatKind} {x : Nat} (h : okF k x) : x < 2 ^ k.format.width := h.1
theorem okF.canon {k : FloatKind} {x : Nat} (h : okF k x) : Fw.canon k x = x := h.2
theorem okF.nan {k : FloatKind} {x : Nat} (h : okF k x) (hn : isNan k x = true) : x = qnan k := by rw [← h.canon, canon_nan hn]
theorem okF.of_num {k : FloatKind} {x : Nat} (h : x < 2 ^ k.format.width) (hn : isNan k x = false) : okF k x := ⟨h, canon_num hn⟩
end Go.Fw
/- Floating point numbers: what is widened and narrowed again is the same. No condition. -/
namespace Go.Fw
open Ieee

end Go.Fw
/- Floating point numbers as whole numbers of the least place: rounding keeps the order. No condition. -/
namespace Go.Fw
open Ieee

theorem scale {a b i j i' j' : Nat} (h : a * 2 ^ i ≤ b * 2 ^ j) (hij : i + j' = i' + j) : a * 2 ^ i' ≤ b * 2 ^ j' := by
  rcases Nat.le_total i' i with hl | hl
  · obtain ⟨c, rfl⟩ := Nat.exists_eq_add_of_le hl
    obtain rfl : j = j' + c := by omega
    rw [Nat.pow_add, Nat.pow_add, ← Nat.mul_assoc, ← Nat.mul_assoc] at h
    exact Nat.le_of_mul_le_mul_right h (Nat.two_pow_pos c)
  · obtain ⟨c, rfl⟩ := Nat.exists_eq_add_of_le hl
    obtain rfl : j' = j + c := by omega
    rw [Nat.pow_add, Nat.pow_add, ← Nat.mul_assoc, ← Nat.mul_assoc]
    exact Nat.mul_le_mul_right _ h

theorem cut_pow (n d : Nat) : (d ≤ n.log2 + 2 ∧ 1 <<< min d (n.log2 + 2) = 2 ^ d) ∨ (n.log2 + 2 < d ∧ 1 <<< min d (n.log2 + 2) = 2 ^ (n.log2 + 2) ∧ 2 * n < 2 ^ (n.log2 + 2) ∧ n < 2 ^ d) := by
  rw [Nat.one_shiftLeft]
  rcases Nat.lt_or_ge (n.log2 + 2) d with hd | hd
  · have h1 : n < 2 ^ (n.log2 + 1) := Nat.lt_log2_self
    have h2 : 2 ^ (n.log2 + 2) = 2 ^ (n.log2 + 1) * 2 := Nat.pow_succ ..
    have h3 : 2 ^ (n.log2 + 2) ≤ 2 ^ d := Nat.pow_le_pow_right (by omega) (by omega)
    exact .inr ⟨hd, by rw [Nat.min_eq_right (by omega)], by omega, by omega⟩
  · exact .inl ⟨hd, by rw [Nat.min_eq_left hd]⟩

theorem cut_up (s : Bool) {n d N : Nat} (h : n ≤ N * 2 ^ d) : Toward.even.cut s n d ≤ N := by
  unfold Toward.cut
  dsimp only
  rcases cut_pow n d with ⟨_, e⟩ | ⟨_, e, h1, _⟩
  · rw [e]
    have hp := Nat.two_pow_pos d
    have h2 := Nat.div_add_mod n (2 ^ d)
    have h3 : ∀ b : Bool, b.toNat ≤ 1 := fun b => by cases b <;> simp
    by_cases h0 : n % 2 ^ d = 0
    · rw [h0]
      have : n / 2 ^ d ≤ N := Nat.div_le_of_le_mul (by rw [Nat.mul_comm]; exact h)
      have a1 : decide (2 ^ d < 2 * 0) = false := by simp
      have a2 : (2 ^ d == 2 * 0) = false := by rw [beq_eq_false_iff_ne]; omega
      rw [a1, a2]
      simpa using this
    · have : n / 2 ^ d < N := by
        refine Nat.div_lt_of_lt_mul ?_
        rw [Nat.mul_comm]
        rcases Nat.lt_or_ge n (N * 2 ^ d) with h4 | h4
        · exact h4
        · exfalso
          have : n = N * 2 ^ d := by omega
          rw [this, Nat.mul_mod_left] at h0
          exact h0 rfl
      have := h3 (decide (2 ^ d < 2 * (n % 2 ^ d)) || (2 ^ d == 2 * (n % 2 ^ d) && n / 2 ^ d % 2 == 1))
      omega
  · rw [e, Nat.div_eq_of_lt (by omega), Nat.mod_eq_of_lt (by omega)]
    have a1 : decide (2 ^ (n.log2 + 2) < 2 * n) = false := by simp; omega
    have a2 : (2 ^ (n.log2 + 2) == 2 * n) = false := by rw [beq_eq_false_iff_ne]; omega
    rw [a1, a2]
    simp

theorem cut_low (s : Bool) {n d N : Nat} (h : N * 2 ^ d ≤ n) : N ≤ Toward.even.cut s n d := by
  unfold Toward.cut
  dsimp only
  rcases cut_pow n d with ⟨_, e⟩ | ⟨_, e, h1, h2⟩
  · rw [e]
    have : N ≤ n / 2 ^ d := (Nat.le_div_iff_mul_le (Nat.two_pow_pos d)).2 h
    omega
  · have : N = 0 := by
      rcases Nat.eq_zero_or_pos N with h0 | h0
      · exact h0
      · have : 1 * 2 ^ d ≤ N * 2 ^ d := Nat.mul_le_mul_right _ h0
        omega
    rw [this]; exact Nat.zero_le _

/-- Where a number is written. -/
theorem near_parts (f : Format) (s : Bool) {m : Nat} (e : Int) (hm : m ≠ 0) :
    ∃ p kept : Nat, f.nearest s m e = f.word s (min (p * f.binade + kept) f.infRung) ∧ (e + m.log2 ≤ f.leastPlace + p + f.fractionBits) ∧ (1 ≤ p → f.leastPlace + p = e + m.log2 - f.fractionBits) ∧
      kept = Toward.even.cut s (m <<< (e - (f.leastPlace + p)).toNat) (f.leastPlace + p - e).toNat := by
  unfold Format.nearest
  rw [if_neg hm]
  refine ⟨(max (e + (m.log2 : Int) - f.fractionBits) f.leastPlace - f.leastPlace).toNat, _, rfl, ?_, ?_, ?_⟩
  · omega
  · omega
  · have : f.leastPlace + ((max (e + (m.log2 : Int) - f.fractionBits) f.leastPlace - f.leastPlace).toNat : Int) = max (e + (m.log2 : Int) - f.fractionBits) f.leastPlace := by omega
    rw [this]

theorem kept_le (f : Format) (s : Bool) {m : Nat} {e : Int} {p : Nat} (h : e + m.log2 ≤ f.leastPlace + p + f.fractionBits) :
    Toward.even.cut s (m <<< (e - (f.leastPlace + p)).toNat) (f.leastPlace + p - e).toNat ≤ 2 * f.binade := by
  have h7 : m < 2 ^ (m.log2 + 1) := Nat.lt_log2_self
  refine cut_up s ?_
  rw [Nat.shiftLeft_eq]
  refine Nat.le_trans (Nat.le_of_lt (Nat.mul_lt_mul_of_pos_right h7 (Nat.two_pow_pos _))) ?_
  rw [show 2 * f.binade = 2 ^ (f.fractionBits + 1) by unfold Format.binade; rw [Nat.pow_succ]; omega, ← Nat.pow_add, ← Nat.pow_add]
  exact Nat.pow_le_pow_right (by omega) (by omega)

theorem kept_ge (f : Format) (s : Bool) {m : Nat} {e : Int} {p : Nat} (hm : m ≠ 0) (h : f.leastPlace + p = e + m.log2 - f.fractionBits) :
    f.binade ≤ Toward.even.cut s (m <<< (e - (f.leastPlace + p)).toNat) (f.leastPlace + p - e).toNat := by
  refine cut_low s ?_
  rw [Nat.shiftLeft_eq]
  refine Nat.le_trans ?_ (Nat.mul_le_mul_right _ (Nat.log2_self_le hm))
  unfold Format.binade
  rw [← Nat.pow_add, ← Nat.pow_add]
  exact Nat.pow_le_pow_right (by omega) (by omega)

theorem mag_parts {B r : Nat} (hB : 0 < B) (h : B ≤ r) : ∃ q t, t < B ∧ r = (q + 1) * B + t ∧ mag B r = (B + t) * 2 ^ q := by
  have hd : 1 ≤ r / B := (Nat.le_div_iff_mul_le hB).2 (by omega)
  refine ⟨r / B - 1, r % B, Nat.mod_lt r hB, ?_, by unfold mag; rw [if_neg (by omega)]⟩
  rw [show r / B - 1 + 1 = r / B by omega, Nat.mul_comm]
  exact (Nat.div_add_mod r B).symm

theorem near_le (f : Format) (s : Bool) {m : Nat} {e : Int} {r : Nat} (h : m * 2 ^ (e - f.leastPlace).toNat ≤ mag f.binade r * 2 ^ (f.leastPlace - e).toNat) : ∃ g, f.nearest s m e = f.word s g ∧ g ≤ r ∧ g ≤ f.infRung := by
  by_cases hm : m = 0
  · subst hm
    exact ⟨0, by unfold Format.nearest; rw [if_pos rfl], by omega, by omega⟩
  obtain ⟨p, kept, hn, h1, h2, hk⟩ := near_parts f s e hm
  refine ⟨_, hn, Nat.le_trans (Nat.min_le_left ..) ?_, Nat.min_le_right ..⟩
  have hB : 0 < f.binade := Nat.two_pow_pos _
  have hBe : f.binade = 2 ^ f.fractionBits := rfl
  have hlog : 2 ^ m.log2 ≤ m := Nat.log2_self_le hm
  -- the number reaches 2 to the power of its logarithm
  have low : ∀ c : Nat, mag f.binade r < 2 ^ c → e + m.log2 < f.leastPlace + c := fun c hc => by
    have h3 : 2 ^ m.log2 * 2 ^ (e - f.leastPlace).toNat < 2 ^ c * 2 ^ (f.leastPlace - e).toNat :=
      Nat.lt_of_le_of_lt (Nat.le_trans (Nat.mul_le_mul_right _ hlog) h) (Nat.mul_lt_mul_of_pos_right hc (Nat.two_pow_pos _))
    rw [← Nat.pow_add, ← Nat.pow_add] at h3
    have := (Nat.pow_lt_pow_iff_right (by omega)).1 h3
    omega
  by_cases hr : r < f.binade
  · have hmag : mag f.binade r = r := by unfold mag; rw [if_pos hr]
    rw [hmag] at h low
    have := low f.fractionBits (by rw [← hBe]; exact hr)
    have hp : p = 0 := by
      rcases Nat.eq_zero_or_pos p with h0 | h0
      · exact h0
      · have := h2 h0; omega
    subst hp
    rw [hk, Nat.zero_mul, Nat.zero_add]
    refine cut_up s ?_
    rw [Nat.shiftLeft_eq]
    exact scale h (by omega)
  · obtain ⟨q, t, ht, rfl, hmag⟩ := mag_parts hB (Nat.le_of_not_lt hr)
    rw [hmag] at h low
    have h3 := low (f.fractionBits + q + 1) (by
      rw [show f.fractionBits + q + 1 = f.fractionBits + 1 + q by omega, Nat.pow_add, Nat.pow_succ, ← hBe]
      exact Nat.mul_lt_mul_of_pos_right (by omega) (Nat.two_pow_pos _))
    have hpq : p ≤ q := by
      rcases Nat.eq_zero_or_pos p with h0 | h0
      · omega
      · have := h2 h0; omega
    rcases Nat.lt_or_ge p q with hlt | hge
    · have := kept_le f s h1
      rw [← hk] at this
      have h4 : p * f.binade + f.binade ≤ q * f.binade := by rw [← Nat.succ_mul]; exact Nat.mul_le_mul_right _ hlt
      rw [Nat.succ_mul]
      omega
    · have hp : p = q := by omega
      subst hp
      have : kept ≤ f.binade + t := by
        rw [hk]
        refine cut_up s ?_
        rw [Nat.shiftLeft_eq]
        rw [Nat.mul_assoc, ← Nat.pow_add] at h
        exact scale h (by omega)
      rw [Nat.succ_mul]
      omega

theorem near_ge (f : Format) (s : Bool) {m : Nat} {e : Int} {r : Nat} (hi : r ≤ f.infRung) (h : mag f.binade r * 2 ^ (f.leastPlace - e).toNat ≤ m * 2 ^ (e - f.leastPlace).toNat) : ∃ g, f.nearest s m e = f.word s g ∧ r ≤ g := by
  by_cases hm : m = 0
  · subst hm
    refine ⟨0, by unfold Format.nearest; rw [if_pos rfl], ?_⟩
    rw [Nat.zero_mul] at h
    have hp := Nat.two_pow_pos (f.leastPlace - e).toNat
    have h0 : mag f.binade r = 0 := by
      rcases Nat.eq_zero_or_pos (mag f.binade r) with h0 | h0
      · exact h0
      · have := Nat.mul_le_mul h0 hp; omega
    have hB : 0 < f.binade := Nat.two_pow_pos _
    by_cases hr : r < f.binade
    · unfold mag at h0; rw [if_pos hr] at h0; omega
    · have := (mag_lt hB (Nat.le_of_not_lt hr)).1
      have := Nat.mul_le_mul hB (Nat.two_pow_pos (r / f.binade - 1))
      omega
  obtain ⟨p, kept, hn, h1, h2, hk⟩ := near_parts f s e hm
  refine ⟨_, hn, Nat.le_min.2 ⟨?_, hi⟩⟩
  have hB : 0 < f.binade := Nat.two_pow_pos _
  have hBe : f.binade = 2 ^ f.fractionBits := rfl
  have hlog : m < 2 ^ (m.log2 + 1) := Nat.lt_log2_self
  have big : 1 ≤ p → f.binade ≤ kept := fun hp => by rw [hk]; exact kept_ge f s hm (h2 hp)
  by_cases hr : r < f.binade
  · rcases Nat.eq_zero_or_pos p with h0 | h0
    · subst h0
      rw [hk, Nat.zero_mul, Nat.zero_add]
      refine cut_low s ?_
      rw [Nat.shiftLeft_eq]
      have hmag : mag f.binade r = r := by unfold mag; rw [if_pos hr]
      rw [hmag] at h
      exact scale h (by omega)
    · have := big h0; omega
  · obtain ⟨q, t, ht, rfl, hmag⟩ := mag_parts hB (Nat.le_of_not_lt hr)
    rw [hmag] at h
    have h3 : f.leastPlace + f.fractionBits + q < e + m.log2 + 1 := by
      have h3 : 2 ^ (f.fractionBits + q) * 2 ^ (f.leastPlace - e).toNat < 2 ^ (m.log2 + 1) * 2 ^ (e - f.leastPlace).toNat := by
        refine Nat.lt_of_le_of_lt (Nat.le_trans (Nat.mul_le_mul_right _ ?_) h) (Nat.mul_lt_mul_of_pos_right hlog (Nat.two_pow_pos _))
        rw [Nat.pow_add, ← hBe]
        exact Nat.mul_le_mul_right _ (by omega)
      rw [← Nat.pow_add, ← Nat.pow_add] at h3
      have := (Nat.pow_lt_pow_iff_right (by omega)).1 h3
      omega
    have hpq : q ≤ p := by omega
    rcases Nat.lt_or_ge q p with hlt | hge
    · have := big (by omega)
      have h4 : q * f.binade + f.binade ≤ p * f.binade := by rw [← Nat.succ_mul]; exact Nat.mul_le_mul_right _ hlt
      rw [Nat.succ_mul]
      omega
    · have hp : p = q := by omega
      subst hp
      have : f.binade + t ≤ kept := by
        rw [hk]
        refine cut_low s ?_
        rw [Nat.shiftLeft_eq]
        rw [Nat.mul_assoc, ← Nat.pow_add] at h
        exact scale h (by omega)
      rw [Nat.succ_mul]
      omega

theorem near_eq (f : Format) (s : Bool) {m : Nat} {e : Int} {r : Nat} (hi : r ≤ f.infRung) (h : m * 2 ^ (e - f.leastPlace).toNat = mag f.binade r * 2 ^ (f.leastPlace - e).toNat) : f.nearest s m e = f.word s r := by
  obtain ⟨g, h1, h2, _⟩ := near_le f s (Nat.le_of_eq h)
  obtain ⟨g', h3, h4⟩ := near_ge f s hi (Nat.le_of_eq h.symm)
  have : g = g' := by
    rw [h1] at h3
    unfold Format.word at h3
    cases s <;> simp at h3 <;> omega
  subst this
  rw [h1, show g = r by omega]

theorem mag_mono {B r s : Nat} (hB : 0 < B) (h : r ≤ s) : mag B r ≤ mag B s := by
  by_cases hr : r < B
  · by_cases hs : s < B
    · unfold mag; rw [if_pos hr, if_pos hs]; exact h
    · obtain ⟨q, t, _, _, e⟩ := mag_parts hB (Nat.le_of_not_lt hs)
      rw [e]
      unfold mag
      rw [if_pos hr]
      have : (B + t) * 1 ≤ (B + t) * 2 ^ q := Nat.mul_le_mul_left _ (Nat.two_pow_pos q)
      omega
  · obtain ⟨q, t, ht, rfl, e⟩ := mag_parts hB (Nat.le_of_not_lt hr)
    obtain ⟨q', t', ht', rfl, e'⟩ := mag_parts hB (Nat.le_trans (Nat.le_of_not_lt hr) h)
    rw [e, e']
    rcases Nat.lt_trichotomy q q' with h1 | h1 | h1
    · have h2 : 2 ^ q * 2 ≤ 2 ^ q' := by rw [← Nat.pow_succ]; exact Nat.pow_le_pow_right (by omega) h1
      calc (B + t) * 2 ^ q ≤ (B * 2) * 2 ^ q := Nat.mul_le_mul_right _ (by omega)
        _ = B * (2 ^ q * 2) := by rw [Nat.mul_assoc, Nat.mul_comm 2]
        _ ≤ (B + t') * 2 ^ q' := Nat.mul_le_mul (by omega) h2
    · subst h1
      exact Nat.mul_le_mul_right _ (by omega)
    · exfalso
      have : (q' + 1 + 1) * B ≤ (q + 1) * B := Nat.mul_le_mul_right _ (by omega)
      rw [Nat.succ_mul (q' + 1)] at this
      omega

/-! ### words as whole numbers of the least place -/
def fin (k : FloatKind) (x : Nat) : Prop := x % k.format.signWeight < k.format.infRung
def V (k : FloatKind) (x : Nat) : Nat := mag k.format.binade (x % k.format.signWeight)
def sg (k : FloatKind) (x : Nat) : Bool := x / k.format.signWeight % 2 == 1
def Z (k : FloatKind) (x : Nat) : Int := if sg k x then -(V k x : Int) else V k x

theorem fin_read {k : FloatKind} {x : Nat} (h : fin k x) : ∃ m a : Nat, k.format.read x = .number (sg k x) m (k.format.leastPlace + a) ∧ m * 2 ^ a = V k x := read_fin k.format x h

theorem word_fin {k : FloatKind} {s : Bool} {g : Nat} (h : g < k.format.infRung) : fin k (k.format.word s g) ∧ V k (k.format.word s g) = mag k.format.binade g ∧ sg k (k.format.word s g) = s := by
  obtain ⟨p1, p2⟩ := word_parts k s (Nat.lt_trans h k.format.infRung_lt)
  refine ⟨by unfold fin; rw [p2]; exact h, by unfold V; rw [p2], ?_⟩
  unfold sg
  rw [p1]
  cases s <;> rfl

theorem fin_nan {k : FloatKind} {x : Nat} (h : fin k x) : isNan k x = false := by
  obtain ⟨m, a, hr, _⟩ := fin_read h
  show (k.format.read x).isNaN = false
  rw [hr]; rfl

/-- A number that is not greater than 2 to the power of c places is written as such a one. -/
theorem near_bnd (s : Bool) {m c : Nat} {e : Int} (h1 : 52 ≤ c) (h2 : c ≤ 2097) (h : m * 2 ^ (e + 1074).toNat ≤ 2 ^ c * 2 ^ (-1074 - e).toNat) :
    fin .f64 (FloatKind.f64.format.nearest s m e) ∧ V .f64 (FloatKind.f64.format.nearest s m e) ≤ 2 ^ c := by
  have hB : FloatKind.f64.format.binade = 2 ^ 52 := rfl
  have hI : FloatKind.f64.format.infRung = 2047 * FloatKind.f64.format.binade := rfl
  have hL : FloatKind.f64.format.leastPlace = -1074 := rfl
  have hBp : 0 < FloatKind.f64.format.binade := Nat.two_pow_pos _
  have hm : mag FloatKind.f64.format.binade ((c - 51) * FloatKind.f64.format.binade) = 2 ^ c := by
    unfold mag
    have : FloatKind.f64.format.binade ≤ (c - 51) * FloatKind.f64.format.binade := Nat.le_mul_of_pos_left _ (by omega)
    rw [if_neg (by omega), Nat.mul_mod_left, Nat.mul_div_cancel _ hBp, hB, Nat.add_zero, ← Nat.pow_add]
    congr 1; omega
  obtain ⟨g, h3, h4, _⟩ := near_le FloatKind.f64.format s (m := m) (e := e) (r := (c - 51) * FloatKind.f64.format.binade) (by
    rw [hL, hm, show e - -1074 = e + 1074 by omega]; exact h)
  have hlt : g < FloatKind.f64.format.infRung := by
    have : (c - 51) * FloatKind.f64.format.binade ≤ 2046 * FloatKind.f64.format.binade := Nat.mul_le_mul_right _ (by omega)
    omega
  rw [h3]
  obtain ⟨w1, w2, _⟩ := word_fin (k := .f64) (s := s) hlt
  exact ⟨w1, by rw [w2, ← hm]; exact mag_mono hBp h4⟩

theorem fmul_bnd {x y p q : Nat} (hx : fin .f64 x) (hy : fin .f64 y) (hp : V .f64 x ≤ 2 ^ p) (hq : V .f64 y ≤ 2 ^ q) (h1 : 1126 ≤ p + q) (h2 : p + q ≤ 3171) : fin .f64 (fmul .f64 x y) ∧ V .f64 (fmul .f64 x y) ≤ 2 ^ (p + q - 1074) := by
  obtain ⟨m, a, hr, e⟩ := fin_read hx
  obtain ⟨n, b, hr', e'⟩ := fin_read hy
  have : fmul .f64 x y = FloatKind.f64.format.nearest (sg .f64 x ^^ sg .f64 y) (m * n) (FloatKind.f64.format.leastPlace + a + (FloatKind.f64.format.leastPlace + b)) := by
    unfold fmul fop floatBits Format.mul
    rw [hr, hr']; rfl
  rw [this]
  have hL : FloatKind.f64.format.leastPlace = -1074 := rfl
  rw [hL]
  refine near_bnd _ (by omega) (by omega) ?_
  have h3 : ∀ K, K ≤ p + q → m * n * 2 ^ (a + b) ≤ 2 ^ (p + q - K) * 2 ^ K := fun K hK => by
    rw [Nat.pow_sub_mul_pow 2 hK, Nat.pow_add 2 p q, Nat.pow_add 2 a b, Nat.mul_mul_mul_comm, e, e']
    exact Nat.mul_le_mul hp hq
  exact scale (h3 1074 (by omega)) (by omega)

theorem cmp_scale (a b : Int) (c : Nat) (hc : 0 < c) : compare (a * c) (b * c) = compare a b := by
  have hc' : (0 : Int) < c := by omega
  rcases Int.lt_trichotomy a b with h | h | h
  · rw [Int.compare_eq_lt.2 h, Int.compare_eq_lt.2 (Int.mul_lt_mul_of_pos_right h hc')]
  · subst h; rw [cmp_self, cmp_self]
  · rw [Int.compare_eq_gt.2 h, Int.compare_eq_gt.2 (Int.mul_lt_mul_of_pos_right h hc')]

/-- A number's signed value at a base not above its place. -/
theorem signed_base (s : Bool) (m : Nat) (L : Int) (a c : Nat) (h : c ≤ a) : signed s m (L + a - (L + c)).toNat * ((2 ^ c : Nat) : Int) = if s then -((m * 2 ^ a : Nat) : Int) else ((m * 2 ^ a : Nat) : Int) := by
  rw [signed_eq, show (L + (a : Int) - (L + c)).toNat = a - c by omega]
  have : m * 2 ^ a = m * 2 ^ (a - c) * 2 ^ c := by rw [Nat.mul_assoc, ← Nat.pow_add, show a - c + c = a by omega]
  rw [this]
  cases s
  · simp
  · simp only [if_true, Int.natCast_mul, Int.neg_mul, Int.one_mul]

theorem order_fin {k : FloatKind} {x y : Nat} (hx : fin k x) (hy : fin k y) : k.format.order x y = some (compare (Z k x) (Z k y)) := by
  obtain ⟨m, a, hr, e⟩ := fin_read hx
  obtain ⟨n, b, hr', e'⟩ := fin_read hy
  unfold Format.order
  rw [hr, hr']
  show some (compare (signed (sg k x) m _) (signed (sg k y) n _)) = _
  have hb : min (k.format.leastPlace + (a : Int)) (k.format.leastPlace + b) = k.format.leastPlace + (min a b : Nat) := by omega
  rw [hb, ← cmp_scale _ _ (2 ^ min a b) (Nat.two_pow_pos _), signed_base _ _ _ _ _ (Nat.min_le_left a b), signed_base _ _ _ _ _ (Nat.min_le_right a b), e, e']
  rfl

/-- What a sum is before it is rounded. -/
theorem sum_fin {k : FloatKind} {x y : Nat} (t : Bool) (hx : fin k x) (hy : fin k y) (z : Int) (hz : z = Z k x + (if t then -Z k y else Z k y)) :
    ∃ (M : Nat) (c : Nat), (k.format.read x).sum (if t then (k.format.read y).opposite else k.format.read y) = some (.number (if z = 0 then sg k x && (t ^^ sg k y) else decide (z < 0)) M (k.format.leastPlace + c)) ∧ M * 2 ^ c = z.natAbs := by
  obtain ⟨m, a, hr, e⟩ := fin_read hx
  obtain ⟨n, b, hr', e'⟩ := fin_read hy
  have ho : (if t then (k.format.read y).opposite else k.format.read y) = .number (t ^^ sg k y) n (k.format.leastPlace + b) := by
    rw [hr']; cases t <;> simp [Datum.opposite]
  rw [ho, hr]
  have hb : min (k.format.leastPlace + (a : Int)) (k.format.leastPlace + b) = k.format.leastPlace + (min a b : Nat) := by omega
  have hs1 := signed_base (sg k x) m k.format.leastPlace a (min a b) (Nat.min_le_left a b)
  have hs2 := signed_base (t ^^ sg k y) n k.format.leastPlace b (min a b) (Nat.min_le_right a b)
  rw [e] at hs1
  rw [e'] at hs2
  have hz1 : (signed (sg k x) m (k.format.leastPlace + a - (k.format.leastPlace + (min a b : Nat))).toNat + signed (t ^^ sg k y) n (k.format.leastPlace + b - (k.format.leastPlace + (min a b : Nat))).toNat) * ((2 ^ min a b : Nat) : Int) = z := by
    rw [Int.add_mul, hs1, hs2, hz]
    unfold Z
    cases t <;> cases sg k y <;> simp
  refine ⟨(signed (sg k x) m (k.format.leastPlace + a - (k.format.leastPlace + (min a b : Nat))).toNat + signed (t ^^ sg k y) n (k.format.leastPlace + b - (k.format.leastPlace + (min a b : Nat))).toNat).natAbs, min a b, ?_, ?_⟩
  · simp only [Datum.sum, hb]
    generalize signed (sg k x) m _ + signed (t ^^ sg k y) n _ = w at *
    have hpos : (0 : Int) < ((2 ^ min a b : Nat) : Int) := by have := Nat.two_pow_pos (min a b); omega
    have h0 : w = 0 ↔ z = 0 := by
      rw [← hz1]
      constructor
      · intro h; rw [h, Int.zero_mul]
      · intro h; rcases Int.mul_eq_zero.1 h with h | h
        · exact h
        · omega
    have hlt : w < 0 ↔ z < 0 := by
      rw [← hz1]
      constructor
      · intro h; exact Int.mul_neg_of_neg_of_pos h hpos
      · intro h
        rcases Int.lt_or_le w 0 with h1 | h1
        · exact h1
        · have := Int.mul_nonneg h1 (Int.le_of_lt hpos); omega
    simp only [h0, hlt]
  · generalize signed (sg k x) m _ + signed (t ^^ sg k y) n _ = w at *
    rw [← hz1, Int.natAbs_mul, Int.natAbs_natCast]

theorem fadd_fin {k : FloatKind} {x y : Nat} (hx : fin k x) (hy : fin k y) : ∃ (M : Nat) (c : Nat), fadd k x y = k.format.nearest (if Z k x + Z k y = 0 then sg k x && sg k y else decide (Z k x + Z k y < 0)) M (k.format.leastPlace + c) ∧ M * 2 ^ c = (Z k x + Z k y).natAbs := by
  obtain ⟨M, c, h1, h2⟩ := sum_fin false hx hy (Z k x + Z k y) (by simp)
  refine ⟨M, c, ?_, h2⟩
  simp only [Bool.false_eq_true, if_false, Bool.false_xor] at h1
  unfold fadd fop floatBits Format.add
  simp only [h1]; rfl

theorem fsub_fin {k : FloatKind} {x y : Nat} (hx : fin k x) (hy : fin k y) : ∃ (M : Nat) (c : Nat), fsub k x y = k.format.nearest (if Z k x - Z k y = 0 then sg k x && !sg k y else decide (Z k x - Z k y < 0)) M (k.format.leastPlace + c) ∧ M * 2 ^ c = (Z k x - Z k y).natAbs := by
  obtain ⟨M, c, h1, h2⟩ := sum_fin true hx hy (Z k x - Z k y) (by simp [Int.sub_eq_add_neg])
  refine ⟨M, c, ?_, h2⟩
  simp only [if_true, Bool.true_xor] at h1
  unfold fsub fop floatBits Format.sub
  simp only [h1]; rfl

theorem Z_abs {k : FloatKind} {x : Nat} : (Z k x).natAbs = V k x := by unfold Z; split <;> simp

theorem near_sum {M c p : Nat} {s : Bool} {z : Int} (h : M * 2 ^ c = z.natAbs) (h1 : 52 ≤ p) (h2 : p ≤ 2097) (hz : z.natAbs ≤ 2 ^ p) :
    fin .f64 (FloatKind.f64.format.nearest s M (FloatKind.f64.format.leastPlace + c)) ∧ V .f64 (FloatKind.f64.format.nearest s M (FloatKind.f64.format.leastPlace + c)) ≤ 2 ^ p := by
  have hL : FloatKind.f64.format.leastPlace = -1074 := rfl
  rw [hL]
  refine near_bnd s h1 h2 ?_
  refine scale (i := c) (j := 0) ?_ (by omega)
  rw [h]; simpa using hz

theorem fadd_bnd {x y p : Nat} (hx : fin .f64 x) (hy : fin .f64 y) (hp : V .f64 x ≤ 2 ^ p) (hq : V .f64 y ≤ 2 ^ p) (h1 : 52 ≤ p) (h2 : p ≤ 2096) : fin .f64 (fadd .f64 x y) ∧ V .f64 (fadd .f64 x y) ≤ 2 ^ (p + 1) := by
  obtain ⟨M, c, e, h⟩ := fadd_fin hx hy
  rw [e]
  refine near_sum h (by omega) (by omega) ?_
  have := Int.natAbs_add_le (Z .f64 x) (Z .f64 y)
  rw [Z_abs, Z_abs] at this
  rw [Nat.pow_succ]; omega

theorem fsub_bnd {x y p : Nat} (hx : fin .f64 x) (hy : fin .f64 y) (hp : V .f64 x ≤ 2 ^ p) (hq : V .f64 y ≤ 2 ^ p) (h1 : 52 ≤ p) (h2 : p ≤ 2096) : fin .f64 (fsub .f64 x y) ∧ V .f64 (fsub .f64 x y) ≤ 2 ^ (p + 1) := by
  obtain ⟨M, c, e, h⟩ := fsub_fin hx hy
  rw [e]
  refine near_sum h (by omega) (by omega) ?_
  have := Int.natAbs_sub_le (Z .f64 x) (Z .f64 y)
  rw [Z_abs, Z_abs] at this
  rw [Nat.pow_succ]; omega

/-- Divided by a number that is not less than 2 to the power of q places. -/
theorem fdiv_bnd {x y p q : Nat} (hx : fin .f64 x) (hy : fin .f64 y) (hp : V .f64 x ≤ 2 ^ p) (hq : 2 ^ q ≤ V .f64 y) (h1 : q + 52 ≤ p + 1074) (h2 : p + 1074 ≤ 2097 + q) : fin .f64 (fdiv .f64 x y) ∧ V .f64 (fdiv .f64 x y) ≤ 2 ^ (p + 1074 - q) := by
  obtain ⟨m, a, hr, e⟩ := fin_read hx
  obtain ⟨n, b, hr', e'⟩ := fin_read hy
  have hn : n ≠ 0 := by
    rintro rfl
    have := Nat.two_pow_pos q
    omega
  have hd : fdiv .f64 x y = FloatKind.f64.format.nearest (sg .f64 x ^^ sg .f64 y) (2 * (m <<< (54 + n.log2 - m.log2) / n) + (m <<< (54 + n.log2 - m.log2) % n != 0).toNat) (FloatKind.f64.format.leastPlace + a - (FloatKind.f64.format.leastPlace + b) - (54 + n.log2 - m.log2 : Nat) - 1) := by
    unfold fdiv fop floatBits Format.div
    rw [hr, hr']
    simp only [Datum.quotient, hn, if_false]
    rfl
  rw [hd]
  have hL : FloatKind.f64.format.leastPlace = -1074 := rfl
  rw [hL, Nat.shiftLeft_eq]
  have hmore : m ≠ 0 → n ≤ m * 2 ^ (54 + n.log2 - m.log2) := fun hm => by
    have h3 : 2 ^ m.log2 * 2 ^ (54 + n.log2 - m.log2) ≤ m * 2 ^ (54 + n.log2 - m.log2) := Nat.mul_le_mul_right _ (Nat.log2_self_le hm)
    rw [← Nat.pow_add] at h3
    have h4 : n < 2 ^ (n.log2 + 1) := Nat.lt_log2_self
    have h5 : 2 ^ (n.log2 + 1) ≤ 2 ^ (m.log2 + (54 + n.log2 - m.log2)) := Nat.pow_le_pow_right (by omega) (by omega)
    omega
  generalize 54 + n.log2 - m.log2 = more at *
  refine near_bnd _ (by omega) (by omega) ?_
  by_cases hm : m = 0
  · subst hm
    simp
  have hn0 : 0 < n := Nat.pos_of_ne_zero hn
  have hX := Nat.div_add_mod (m * 2 ^ more) n
  have hX1 : 1 ≤ m * 2 ^ more / n := (Nat.le_div_iff_mul_le hn0).2 (by have := hmore hm; omega)
  -- the quotient is not too great
  have up : ∀ y : Nat, y * n ≤ m * 2 ^ more → y * 2 ^ (q + a) ≤ 2 ^ (p + more + b) := fun y hy => by
    have h3 : y * 2 ^ q ≤ m * 2 ^ more * 2 ^ b := by
      refine Nat.le_trans (Nat.mul_le_mul_left y hq) ?_
      rw [← e', ← Nat.mul_assoc]
      exact Nat.mul_le_mul_right _ hy
    rw [Nat.pow_add, ← Nat.mul_assoc]
    refine Nat.le_trans (Nat.mul_le_mul_right _ h3) ?_
    rw [show m * 2 ^ more * 2 ^ b * 2 ^ a = m * 2 ^ a * 2 ^ (more + b) by rw [Nat.pow_add]; simp only [Nat.mul_assoc, Nat.mul_comm, Nat.mul_left_comm], e, Nat.add_assoc, Nat.pow_add 2 p]
    exact Nat.mul_le_mul_right _ hp
  have hXn : m * 2 ^ more / n * n ≤ m * 2 ^ more := Nat.div_mul_le_self _ _
  have hK : q + a ≤ p + more + b := by
    have h3 := up 1 (by rw [Nat.one_mul]; exact hmore hm)
    rw [Nat.one_mul] at h3
    exact (Nat.pow_le_pow_iff_right (by omega)).1 h3
  have hXK : m * 2 ^ more / n ≤ 2 ^ (p + more + b - (q + a)) := by
    have h3 := up _ hXn
    have h4 : 2 ^ (p + more + b) = 2 ^ (p + more + b - (q + a)) * 2 ^ (q + a) := by rw [← Nat.pow_add]; congr 1; omega
    rw [h4] at h3
    exact Nat.le_of_mul_le_mul_right h3 (Nat.two_pow_pos _)
  have key : 2 * (m * 2 ^ more / n) + (m * 2 ^ more % n != 0).toNat ≤ 2 ^ (p + more + b - (q + a) + 1) := by
    rw [Nat.pow_succ]
    cases hs : (m * 2 ^ more % n != 0)
    · simp; omega
    · have hr0 : m * 2 ^ more % n ≠ 0 := by simpa using hs
      have hlt : m * 2 ^ more / n < 2 ^ (p + more + b - (q + a)) := by
        refine Nat.lt_of_le_of_ne hXK fun he => ?_
        -- then n times it is the dividend
        have h3 : n * 2 ^ (p + more + b - (q + a)) < m * 2 ^ more := by rw [← he]; omega
        have h4 : n * 2 ^ (p + more + b - (q + a)) * 2 ^ (a + b) < m * 2 ^ more * 2 ^ (a + b) := Nat.mul_lt_mul_of_pos_right h3 (Nat.two_pow_pos _)
        have h5 : m * 2 ^ more * 2 ^ (a + b) ≤ 2 ^ (p + more + b) := by
          rw [show m * 2 ^ more * 2 ^ (a + b) = m * 2 ^ a * 2 ^ (more + b) by rw [Nat.pow_add, Nat.pow_add]; simp only [Nat.mul_assoc, Nat.mul_comm, Nat.mul_left_comm], e, Nat.add_assoc, Nat.pow_add 2 p]
          exact Nat.mul_le_mul_right _ hp
        have h6 : 2 ^ (p + more + b) ≤ n * 2 ^ (p + more + b - (q + a)) * 2 ^ (a + b) := by
          rw [show n * 2 ^ (p + more + b - (q + a)) * 2 ^ (a + b) = n * 2 ^ b * 2 ^ (p + more + b - (q + a) + a) by rw [Nat.pow_add, Nat.pow_add]; simp only [Nat.mul_assoc, Nat.mul_comm, Nat.mul_left_comm], e']
          refine Nat.le_trans ?_ (Nat.mul_le_mul_right _ hq)
          rw [← Nat.pow_add]
          exact Nat.pow_le_pow_right (by omega) (by omega)
        omega
      simp; omega
  have key2 : (2 * (m * 2 ^ more / n) + (m * 2 ^ more % n != 0).toNat) * 2 ^ 0 ≤ 1 * 2 ^ (p + more + b - (q + a) + 1) := by simpa using key
  have key3 := scale (i' := (-1074 + (a : Int) - (-1074 + b) - more - 1 + 1074).toNat) (j' := p + 1074 - q + (-1074 - (-1074 + (a : Int) - (-1074 + b) - more - 1)).toNat) key2 (by omega)
  rw [Nat.one_mul, Nat.pow_add] at key3
  exact key3

/-- A number of double precision of at most 2 to the power of c places. -/
def bd (c x : Nat) : Prop := fin .f64 x ∧ V .f64 x ≤ 2 ^ c
theorem bd.fin {c x : Nat} (h : bd c x) : fin .f64 x := h.1
theorem bd.up {p x : Nat} (q : Nat) (h : bd p x) (hpq : p ≤ q) : bd q x := ⟨h.1, Nat.le_trans h.2 (Nat.pow_le_pow_right (by omega) hpq)⟩
theorem bd.mul {x y p q : Nat} (r : Nat) (hx : bd p x) (hy : bd q y) (h1 : 1126 ≤ p + q) (h2 : p + q ≤ 3171) (hr : p + q ≤ r + 1074) : bd r (fmul .f64 x y) := by
  have h := fmul_bnd hx.1 hy.1 hx.2 hy.2 h1 h2
  exact bd.up r h (by omega)
theorem bd.add {x y p q : Nat} (r : Nat) (hx : bd p x) (hy : bd q y) (h1 : 53 ≤ r) (h2 : r ≤ 2097) (hp : p + 1 ≤ r) (hq : q + 1 ≤ r) : bd r (fadd .f64 x y) := by
  have h := fadd_bnd hx.1 hy.1 (hx.up (r - 1) (by omega)).2 (hy.up (r - 1) (by omega)).2 (by omega) (by omega)
  exact bd.up r h (by omega)
theorem bd.sub {x y p q : Nat} (r : Nat) (hx : bd p x) (hy : bd q y) (h1 : 53 ≤ r) (h2 : r ≤ 2097) (hp : p + 1 ≤ r) (hq : q + 1 ≤ r) : bd r (fsub .f64 x y) := by
  have h := fsub_bnd hx.1 hy.1 (hx.up (r - 1) (by omega)).2 (hy.up (r - 1) (by omega)).2 (by omega) (by omega)
  exact bd.up r h (by omega)
/-- Not less than 2 to the power of q places. -/
def lo (q y : Nat) : Prop := fin .f64 y ∧ 2 ^ q ≤ V .f64 y
theorem bd.div {x y p q : Nat} (r : Nat) (hx : bd p x) (hy : lo q y) (h1 : q + 52 ≤ p + 1074) (h2 : p + 1074 ≤ 2097 + q) (hr : p + 1074 ≤ r + q) : bd r (fdiv .f64 x y) := by
  have h := fdiv_bnd hx.1 hy.1 hx.2 hy.2 h1 h2
  exact bd.up r h (by omega)
end Go.Fw
/- Whole numbers in double precision; a number less its whole part. No condition. -/
namespace Go.Fw
open Ieee

section ord
variable {k : FloatKind} {x y : Nat} (hx : fin k x) (hy : fin k y)
include hx hy
theorem feq_fin : feq k x y = decide (Z k x = Z k y) := by
  unfold feq; rw [order_fin hx hy, Bool.eq_iff_iff]; simp
end ord

theorem mag_of {B q t : Nat} (h : t < B) : mag B ((q + 1) * B + t) = (B + t) * 2 ^ q := by
  have hB : 0 < B := by omega
  unfold mag
  rw [if_neg (by rw [Nat.succ_mul]; omega), Nat.add_comm _ t, Nat.add_mul_mod_self_right, Nat.mod_eq_of_lt h, Nat.add_mul_div_right _ _ hB, Nat.div_eq_of_lt h]
  congr 2; omega

end Go.Fw
/- The order of floating point numbers by their words. No condition. -/
namespace Go.Fw
open Ieee

section ord
variable {k : FloatKind} {x y : Nat} (hx : isNan k x = false) (hy : isNan k y = false)
include hx hy
end ord

/-! ### words of single precision -/
end Go.Fw
/- Sums and halves that are exact; what is nearest to a number of double precision in single precision. No condition. -/
namespace Go.Fw
open Ieee

end Go.Fw
/- What is nearest between two neighbours. No condition. -/
namespace Go.Fw
open Ieee

end Go.Fw
/- Plain facts for printed texts: what an optional value comes to; loops with invariants; conditions as propositions. No condition. -/
namespace Go.Fw

/-- It comes to a value with the property. -/
def Ret {α : Type} (x : Option α) (Q : α → Prop) : Prop := ∃ y, x = some y ∧ Q y

theorem Ret.pure {α : Type} {y : α} {Q : α → Prop} (h : Q y) : Ret (some y) Q := ⟨y, rfl, h⟩
theorem Ret.bind {α β : Type} {x : Option α} {f : α → Option β} {Q : β → Prop} (h : Ret x fun y => Ret (f y) Q) : Ret (Option.bind x f) Q := by
  obtain ⟨y, rfl, z, hz, hq⟩ := h
  exact ⟨z, hz, hq⟩
theorem Ret.cond {α : Type} {c : Bool} {a b : Option α} {Q : α → Prop} (h : c = true → Ret a Q) (h' : c = false → Ret b Q) : Ret (bif c then a else b) Q := by
  cases c
  · exact h' rfl
  · exact h rfl
theorem Ret.ix {α : Type} {i : Int} {n : Nat} {f : Nat → Option α} {Q : α → Prop} (h0 : 0 ≤ i) (h1 : i < n) (h : Ret (f i.toNat) Q) : Ret (Option.bind (ix i n) f) Q := by
  rw [ix_ok h0 h1]; exact h
theorem Ret.mono {α : Type} {x : Option α} {P Q : α → Prop} (h : Ret x P) (hpq : ∀ y, P y → Q y) : Ret x Q := by
  obtain ⟨y, hy, hp⟩ := h
  exact ⟨y, hy, hpq y hp⟩
theorem Ret.iter {D O : Type} {step : (D → Option O) → D → Option O} (P : Nat → D → Prop) (Q : O → Prop)
    (h : ∀ r n d, P n d → (∀ m d', m < n → P m d' → Ret (r d') Q) → Ret (step r d) Q) : ∀ N n d, P n d → n < N → Ret (iter step N d) Q := by
  intro N
  induction N with
  | zero => intro n d _ h0; omega
  | succ N ih =>
    intro n d hp hn
    rw [iter_succ]
    exact h _ n d hp fun m d' hm hp' => ih m d' hp' (by omega)

/-- Both come to values that belong together. -/
def Ret2 {α β : Type} (x : Option α) (x' : Option β) (Q : α → β → Prop) : Prop := ∃ y y', x = some y ∧ x' = some y' ∧ Q y y'

theorem Ret2.pure {α β : Type} {y : α} {y' : β} {Q : α → β → Prop} (h : Q y y') : Ret2 (some y) (some y') Q := ⟨y, y', rfl, rfl, h⟩
theorem Ret2.cond {α β : Type} {c c' : Bool} {a b : Option α} {a' b' : Option β} {Q : α → β → Prop} (hc : c = c') (h : c = true → Ret2 a a' Q) (h' : c = false → Ret2 b b' Q) : Ret2 (bif c then a else b) (bif c' then a' else b') Q := by
  subst hc
  cases c
  · exact h' rfl
  · exact h rfl
theorem Ret2.mono {α β : Type} {x : Option α} {x' : Option β} {P Q : α → β → Prop} (h : Ret2 x x' P) (hpq : ∀ y y', P y y' → Q y y') : Ret2 x x' Q := by
  obtain ⟨y, y', hy, hy', hp⟩ := h
  exact ⟨y, y', hy, hy', hpq y y' hp⟩
theorem Ret2.iter {D O D' O' : Type} {step : (D → Option O) → D → Option O} {step' : (D' → Option O') → D' → Option O'} (P : Nat → D → D' → Prop) (Q : O → O' → Prop)
    (h : ∀ r r' n d e, P n d e → (∀ m d' e', m < n → P m d' e' → Ret2 (r d') (r' e') Q) → Ret2 (step r d) (step' r' e) Q) : ∀ N n d e, P n d e → n < N → Ret2 (iter step N d) (iter step' N e) Q := by
  intro N
  induction N with
  | zero => intro n d e _ h0; omega
  | succ N ih =>
    intro n d e hp hn
    rw [iter_succ, iter_succ]
    exact h _ _ n d e hp fun m d' e' hm hp' => ih m d' e' hp' (by omega)

/-- Both come to the same value, which has the property. -/
def Same {α : Type} (x x' : Option α) (Q : α → Prop) : Prop := ∃ y, x = some y ∧ x' = some y ∧ Q y
theorem Same.of {α : Type} {x x' : Option α} {Q : α → Prop} (h : x = x') (hr : Ret x Q) : Same x x' Q := by
  obtain ⟨y, hy, hq⟩ := hr
  exact ⟨y, hy, h ▸ hy, hq⟩
theorem Same.ret {α : Type} {x x' : Option α} {Q : α → Prop} (h : Same x x' Q) : Ret x Q := by
  obtain ⟨y, hy, _, hq⟩ := h
  exact ⟨y, hy, hq⟩
theorem Same.eq {α : Type} {x x' : Option α} {Q : α → Prop} (h : Same x x' Q) : x = x' := by
  obtain ⟨y, hy, hy', hq⟩ := h
  rw [hy, hy']
theorem Same.two {α : Type} {x x' : Option α} {Q : α → Prop} (h : Same x x' Q) : Ret2 x x' fun y y' => y = y' ∧ Q y := by
  obtain ⟨y, hy, hy', hq⟩ := h
  exact ⟨y, y, hy, hy', rfl, hq⟩
theorem Ret2.same {α : Type} {x x' : Option α} {Q : α → Prop} (h : Ret2 x x' fun y y' => y = y' ∧ Q y) : Same x x' Q := by
  obtain ⟨y, _, hy, hy', rfl, hq⟩ := h
  exact ⟨y, hy, hy', hq⟩
theorem Same.pure {α : Type} {y : α} {Q : α → Prop} (h : Q y) : Same (some y) (some y) Q := ⟨y, rfl, rfl, h⟩

theorem opt_bind_assoc {α β γ : Type} (x : Option α) (f : α → Option β) (g : β → Option γ) : Option.bind (Option.bind x f) g = Option.bind x fun y => Option.bind (f y) g := by cases x <;> rfl
theorem opt_bind_cond {α β : Type} (c : Bool) (a b : Option α) (g : α → Option β) : Option.bind (bif c then a else b) g = bif c then Option.bind a g else Option.bind b g := by cases c <;> rfl
/-! ### conditions as propositions -/
theorem ilt_T (a b : Int) : (ilt a b = true) = (a < b) := by simp [ilt]
theorem ilt_F (a b : Int) : (ilt a b = false) = (b ≤ a) := by simp [ilt]
theorem ile_T (a b : Int) : (ile a b = true) = (a ≤ b) := by simp [ile]
theorem ile_F (a b : Int) : (ile a b = false) = (b < a) := by simp [ile]
theorem ieq_T (a b : Int) : (ieq a b = true) = (a = b) := by simp [ieq]
theorem ieq_F (a b : Int) : (ieq a b = false) = (a ≠ b) := by simp [ieq]
theorem bnot_T (b : Bool) : ((!b) = true) = (b = false) := by cases b <;> simp
theorem bnot_F (b : Bool) : ((!b) = false) = (b = true) := by cases b <;> simp
theorem ble_T (a b : Nat) : (Nat.ble a b = true) = (a ≤ b) := by simp
theorem ble_F (a b : Nat) : (Nat.ble a b = false) = (b < a) := by
  rw [eq_iff_iff]
  constructor
  · intro h
    rcases Nat.lt_or_ge b a with h' | h'
    · exact h'
    · rw [Nat.ble_eq_true_of_le h'] at h; cases h
  · intro h
    cases hb : Nat.ble a b
    · rfl
    · exact absurd (Nat.le_of_ble_eq_true hb) (by omega)
theorem nz_T (a : Int) : (nz a = true) = (a ≠ 0) := by simp [nz]
theorem nz_F (a : Int) : (nz a = false) = (a = 0) := by simp [nz]
theorem nonneg_T (a : Int) : (nonneg a = true) = (0 ≤ a) := by simp [nonneg]
theorem nonneg_F (a : Int) : (nonneg a = false) = (a < 0) := by simp [nonneg]

/-! ### loops that look at one element after another -/
def allFrom (g : Nat → Bool) : Nat → Nat → Bool
  | _, 0 => true
  | i, k + 1 => bif g i then allFrom g (i + 1) k else false
theorem allFrom_T {g : Nat → Bool} : ∀ {k i : Nat}, allFrom g i k = true → ∀ j, i ≤ j → j < i + k → g j = true
  | 0, i, _, j, h1, h2 => by omega
  | k + 1, i, h, j, h1, h2 => by
    unfold allFrom at h
    cases hg : g i
    · rw [hg] at h; cases h
    · rw [hg] at h
      by_cases e : j = i
      · rw [e]; exact hg
      · exact allFrom_T (k := k) (i := i + 1) h j (by omega) (by omega)
theorem allFrom_of {g : Nat → Bool} : ∀ {k i : Nat}, (∀ j, i ≤ j → j < i + k → g j = true) → allFrom g i k = true
  | 0, i, _ => rfl
  | k + 1, i, h => by
    unfold allFrom
    rw [h i (Nat.le_refl _) (by omega), cond_t]
    exact allFrom_of fun j h1 h2 => h j (by omega) (by omega)
theorem all_loop' {D O : Type} {step : (D → Option O) → D → Option O} (d : Nat → D) (good : O) (bad : Nat → O) (g : Nat → Bool) (n : Nat)
    (h1 : ∀ i, i < n → ∀ r, step r (d i) = bif g i then r (d (i + 1)) else some (bad i)) (h2 : ∀ r, step r (d n) = some good) :
    ∀ (k i N : Nat), i + k = n → k < N → ∃ o, iter step N (d i) = some o ∧ (allFrom g i k = true → o = good) ∧ (allFrom g i k = false → ∃ j, i ≤ j ∧ j < n ∧ g j = false ∧ o = bad j)
  | 0, i, N + 1, hi, hN => ⟨good, by rw [iter_succ, show i = n by omega]; exact h2 _, fun _ => rfl, nofun⟩
  | k + 1, i, N + 1, hi, hN => by
    rw [iter_succ, h1 i (by omega)]
    unfold allFrom
    cases hg : g i
    · exact ⟨bad i, rfl, nofun, fun _ => ⟨i, Nat.le_refl _, by omega, hg, rfl⟩⟩
    · obtain ⟨o, ho, h3, h4⟩ := all_loop' d good bad g n h1 h2 k (i + 1) N (by omega) (by omega)
      refine ⟨o, ho, h3, fun h => ?_⟩
      obtain ⟨j, h5, h6, h7, h8⟩ := h4 h
      exact ⟨j, by omega, h6, h7, h8⟩
theorem all_loop {D O : Type} {step : (D → Option O) → D → Option O} (d : Nat → D) (good bad : O) (g : Nat → Bool) (n : Nat)
    (h1 : ∀ i, i < n → ∀ r, step r (d i) = bif g i then r (d (i + 1)) else some bad) (h2 : ∀ r, step r (d n) = some good) (hn : n < 4611686018427387904) : iter step fuel (d 0) = some (bif allFrom g 0 n then good else bad) := by
  obtain ⟨o, ho, h3, h4⟩ := all_loop' d good (fun _ => bad) g n h1 h2 n 0 fuel (by omega) (by unfold fuel; omega)
  rw [ho]
  cases hg : allFrom g 0 n
  · obtain ⟨j, _, _, _, e⟩ := h4 hg; rw [e]; rfl
  · rw [h3 hg]; rfl
theorem bif_not {α : Type} (b : Bool) (x y : α) : (bif !b then x else y) = bif b then y else x := by cases b <;> rfl
theorem nat_int_toNat (i : Nat) : ((i : Int)).toNat = i := Int.toNat_natCast i
theorem ix_nat {i n : Nat} (h : i < n) : ix (i : Int) n = some i := by rw [ix_ok (by omega) (by omega), nat_int_toNat]
theorem ilt_nat {i n : Nat} (h : i < n) : ilt (i : Int) (n : Int) = true := ilt_t (by omega)
theorem ilt_self (n : Int) : ilt n n = false := ilt_f (Int.le_refl _)
theorem iadd_nat {i : Nat} (h : i < 4611686018427387904) : iadd .i64 (i : Int) 1 = ((i + 1 : Nat) : Int) := by rw [iadd_ok (by omega) (by omega)]; omega
theorem allFrom_eq {g g' : Nat → Bool} {i k : Nat} (h : (∀ j, i ≤ j → j < i + k → g j = true) ↔ ∀ j, i ≤ j → j < i + k → g' j = true) : allFrom g i k = allFrom g' i k := by
  rw [Bool.eq_iff_iff]
  exact ⟨fun h1 => allFrom_of (h.1 (allFrom_T h1)), fun h1 => allFrom_of (h.2 (allFrom_T h1))⟩
theorem bif_T (c a b : Bool) : ((bif c then a else b) = true) = ((c = true ∧ a = true) ∨ (c = false ∧ b = true)) := by cases c <;> simp
theorem bif_F (c a b : Bool) : ((bif c then a else b) = false) = ((c = true ∧ a = false) ∨ (c = false ∧ b = false)) := by cases c <;> simp
theorem map_getD {α β : Type} (f : α → β) (l : List α) (j : Nat) (z : α) (y : β) (h : j < l.length) : (l.map f).getD j y = f (l.getD j z) := by
  simp [List.getD_eq_getElem?_getD, h]
/-- A loop that makes a list, element by element. -/
theorem map_loop {α β D O : Type} {step : (D → Option O) → D → Option O} (d : Nat → List β → D) (out : List β → O) (f : α → β) (l : List α)
    (h1 : ∀ pre x suf r acc, l = pre ++ x :: suf → acc.length = pre.length → step r (d pre.length acc) = r (d (pre.length + 1) (acc ++ [f x])))
    (h2 : ∀ r acc, step r (d l.length acc) = some (out acc)) (hl : l.length < 4611686018427387904) : iter step fuel (d 0 []) = some (out (l.map f)) := by
  have key : ∀ (suf pre : List α) (N : Nat), l = pre ++ suf → suf.length < N → iter step N (d pre.length (pre.map f)) = some (out (l.map f)) := by
    intro suf
    induction suf with
    | nil =>
      intro pre N he hN
      obtain _ | N := N
      · omega
      rw [List.append_nil] at he
      rw [iter_succ, ← he, h2]
    | cons x suf ih =>
      intro pre N he hN
      obtain _ | N := N
      · omega
      rw [iter_succ, h1 pre x suf _ _ he (List.length_map ..)]
      have := ih (pre ++ [x]) N (by rw [he]; simp) (by simp at hN; omega)
      rwa [List.length_append, List.map_append] at this
  exact key l [] fuel rfl (by unfold fuel; omega)

/-- Whether one of them has it. -/
theorem contains_of {D : Type} {step : (D → Option (Bool × ((Int × Unit) × Unit))) → D → Option (Bool × ((Int × Unit) × Unit))} (d : Nat → D) (t : Int) (g : Nat → Bool) (n : Nat)
    (h1 : ∀ i, i < n → ∀ r, step r (d i) = bif g i then r (d (i + 1)) else some (true, (((i : Int), ()), ()))) (h2 : ∀ r, step r (d n) = some (false, ((t, ()), ()))) (hn : n < 4611686018427387904) :
    (Option.bind (iter step fuel (d 0)) fun y => bif y.1 then some (ile 0 y.2.1.1) else some (ile 0 (-1))) = some (!(allFrom g 0 n)) := by
  obtain ⟨o, ho, h3, h4⟩ := all_loop' d _ (fun i : Nat => (true, (((i : Int), ()), ()))) g n h1 h2 n 0 fuel (by omega) (by unfold fuel; omega)
  rw [ho, opt_bind_some]
  cases hg : allFrom g 0 n
  · obtain ⟨j, _, _, _, e⟩ := h4 hg
    rw [e]
    show some (ile 0 (j : Int)) = _
    rw [ile_t (by omega)]; rfl
  · rw [h3 hg]; rfl

end Go.Fw
/- Floating point numbers as rational numbers, and how far each operation is from the exact one. No condition. -/
set_option linter.unusedVariables false
set_option linter.unusedSimpArgs false
namespace Go.Fw
open Ieee

/-- Powers of two as rational numbers. -/
def w2 (e : Int) : Rat := (2 : Rat) ^ e

theorem w2_pos (e : Int) : 0 < w2 e := Rat.zpow_pos (by decide)
theorem w2_add (a b : Int) : w2 (a + b) = w2 a * w2 b := Rat.zpow_add (by decide) a b
theorem w2_zero : w2 0 = 1 := by decide +kernel
theorem w2_one : w2 1 = 2 := by decide +kernel
theorem w2_nat (n : Nat) : w2 n = ((2 ^ n : Nat) : Rat) := by
  unfold w2
  rw [Rat.zpow_natCast, Rat.natCast_pow]
  rfl
theorem w2_le {a b : Int} (h : a ≤ b) : w2 a ≤ w2 b := by
  obtain ⟨n, rfl⟩ : ∃ n : Nat, b = a + n := ⟨(b - a).toNat, by omega⟩
  rw [w2_add, w2_nat]
  have h1 : ((1 : Nat) : Rat) ≤ ((2 ^ n : Nat) : Rat) := Rat.natCast_le_natCast.2 (Nat.two_pow_pos n)
  have h2 := Rat.mul_le_mul_of_nonneg_left h1 (Rat.le_of_lt (w2_pos a))
  grind

/-- x is at most e away from a. -/
def Near (x a e : Rat) : Prop := a - e ≤ x ∧ x ≤ a + e

theorem Near.mono {x a e f : Rat} (h : Near x a e) (hf : e ≤ f) : Near x a f := ⟨by have := h.1; grind, by have := h.2; grind⟩
theorem Near.trans {x a b e f : Rat} (h : Near x a e) (h' : Near a b f) : Near x b (e + f) := ⟨by have := h.1; have := h'.1; grind, by have := h.2; have := h'.2; grind⟩
theorem Near.refl {x e : Rat} (h : 0 ≤ e) : Near x x e := ⟨by grind, by grind⟩
theorem Near.neg {x a e : Rat} (h : Near x a e) : Near (-x) (-a) e := ⟨by have := h.2; grind, by have := h.1; grind⟩

/-- the number of a word -/
def R (k : FloatKind) (x : Nat) : Rat := (Z k x : Rat) * w2 k.format.leastPlace

/-! ### rounding -/
theorem cut_err (s : Bool) (n d : Nat) : 2 * (Toward.even.cut s n d * 2 ^ d) ≤ 2 * n + 2 ^ d ∧ 2 * n ≤ 2 * (Toward.even.cut s n d * 2 ^ d) + 2 ^ d := by
  unfold Toward.cut
  dsimp only
  rcases cut_pow n d with ⟨_, e⟩ | ⟨_, e, h1, h2⟩
  · rw [e]
    have hp := Nat.two_pow_pos d
    have h2 := Nat.div_add_mod n (2 ^ d)
    have h3 := Nat.mod_lt n hp
    generalize hq : n / 2 ^ d = q at *
    generalize ht : n % 2 ^ d = t at *
    generalize hP : 2 ^ d = P at *
    rw [Nat.mul_comm] at h2
    by_cases c1 : P < 2 * t
    · have e1 : decide (P < 2 * t) = true := decide_eq_true c1
      rw [e1, Bool.true_or]
      simp only [Bool.toNat_true]
      rw [Nat.add_mul, Nat.one_mul]
      omega
    · have e1 : decide (P < 2 * t) = false := decide_eq_false c1
      rw [e1, Bool.false_or]
      by_cases c2 : P = 2 * t
      · cases hb : (P == 2 * t && q % 2 == 1)
        · simp only [Bool.toNat_false]; rw [Nat.add_zero]; omega
        · simp only [Bool.toNat_true]; rw [Nat.add_mul, Nat.one_mul]; omega
      · have e2 : (P == 2 * t) = false := by rw [beq_eq_false_iff_ne]; exact c2
        rw [e2, Bool.false_and]
        simp only [Bool.toNat_false]
        rw [Nat.add_zero]; omega
  · rw [e, Nat.div_eq_of_lt (by omega), Nat.mod_eq_of_lt (by omega)]
    have a1 : decide (2 ^ (n.log2 + 2) < 2 * n) = false := by simp; omega
    have a2 : (2 ^ (n.log2 + 2) == 2 * n) = false := by rw [beq_eq_false_iff_ne]; omega
    have h3 : 2 ^ (n.log2 + 2) ≤ 2 ^ d := Nat.pow_le_pow_right (by omega) (by omega)
    rw [a1, a2]
    simp
    omega

theorem mag_kept {B p kept : Nat} (hB : 0 < B) (h1 : kept ≤ 2 * B) (h2 : 1 ≤ p → B ≤ kept) : mag B (p * B + kept) = kept * 2 ^ p := by
  rcases Nat.lt_or_ge kept B with h | h
  · have : p = 0 := by omega
    subst this
    unfold mag; simp [h]
  · rcases Nat.lt_or_ge kept (2 * B) with h3 | h3
    · obtain ⟨t, rfl⟩ : ∃ t, kept = B + t := ⟨kept - B, by omega⟩
      rw [show p * B + (B + t) = (p + 1) * B + t by rw [Nat.add_mul]; omega, mag_of (by omega)]
    · have : kept = 2 * B := by omega
      subst this
      rw [show p * B + 2 * B = (p + 1 + 1) * B + 0 by rw [Nat.add_mul, Nat.add_mul, Nat.one_mul, Nat.two_mul]; omega, mag_of (by omega), Nat.pow_succ, Nat.add_zero, Nat.mul_comm 2 B, Nat.mul_assoc, Nat.mul_comm 2]

theorem natR_mul (a b : Nat) : ((a * b : Nat) : Rat) = (a : Rat) * b := Rat.natCast_mul a b

/-- How far a written number is from what is to be written. -/
theorem near_err (k : FloatKind) (s : Bool) (m : Nat) (e : Int) :
    ∃ g, k.format.nearest s m e = k.format.word s (min g k.format.infRung) ∧
      (Near ((mag k.format.binade g : Rat) * w2 k.format.leastPlace) (m * w2 e) ((m : Rat) * w2 e * w2 (-(k.format.fractionBits : Int) - 1)) ∨
        (e < k.format.leastPlace ∧ Near ((mag k.format.binade g : Rat) * w2 k.format.leastPlace) (m * w2 e) (w2 (k.format.leastPlace - 1)))) ∧
      (m < 2 ^ (k.format.fractionBits + 1) → k.format.leastPlace ≤ e → (mag k.format.binade g : Rat) * w2 k.format.leastPlace = m * w2 e) := by
  have hB : 0 < k.format.binade := Nat.two_pow_pos _
  by_cases hm : m = 0
  · subst hm
    refine ⟨0, by unfold Format.nearest; rw [if_pos rfl, Nat.zero_min], .inl ?_, fun _ _ => ?_⟩
    rotate_left
    · have : mag k.format.binade 0 = 0 := by unfold mag; rw [if_pos hB]
      rw [this, show ((0 : Nat) : Rat) = 0 from rfl]; grind
    have : mag k.format.binade 0 = 0 := by unfold mag; rw [if_pos hB]
    rw [this]
    have h0 : ((0 : Nat) : Rat) = 0 := rfl
    rw [h0]
    exact ⟨by grind, by grind⟩
  obtain ⟨p, kept, hn, h1, h2, hk⟩ := near_parts k.format s e hm
  have k1 := kept_le k.format s (m := m) (e := e) (p := p) h1
  rw [← hk] at k1
  have k2 : 1 ≤ p → k.format.binade ≤ kept := fun hp => by rw [hk]; exact kept_ge k.format s hm (h2 hp)
  refine ⟨p * k.format.binade + kept, hn, ?_⟩
  rw [mag_kept hB k1 k2]
  have eq0 : ((kept * 2 ^ p : Nat) : Rat) * w2 k.format.leastPlace = (kept : Rat) * w2 (k.format.leastPlace + p) := by
    rw [natR_mul, w2_add, w2_nat]; grind
  rw [eq0]
  have herr := cut_err s (m <<< (e - (k.format.leastPlace + p)).toNat) (k.format.leastPlace + p - e).toNat
  rw [← hk, Nat.shiftLeft_eq] at herr
  have hup : 0 < w2 (-(k.format.fractionBits : Int) - 1) := w2_pos _
  have hme : 0 ≤ (m : Rat) * w2 e := Rat.mul_nonneg (Rat.natCast_nonneg) (Rat.le_of_lt (w2_pos e))
  rcases Int.lt_or_le e (k.format.leastPlace + p) with hlt | hge
  · -- digits are dropped
    refine ⟨?_, fun hmb hle => ?_⟩
    rotate_left
    · exfalso
      have hlog := (Nat.log2_lt hm).2 hmb
      rcases Nat.eq_zero_or_pos p with hp | hp
      · omega
      · have := h2 hp; omega
    generalize hd : (k.format.leastPlace + p - e).toNat = d at *
    have h0 : (e - (k.format.leastPlace + p)).toNat = 0 := by omega
    rw [h0, Nat.pow_zero, Nat.mul_one] at herr
    have hLp : k.format.leastPlace + p = e + (d : Int) := by omega
    have c1 : (2 : Rat) * ((kept : Rat) * ((2 ^ d : Nat) : Rat)) ≤ 2 * (m : Rat) + ((2 ^ d : Nat) : Rat) := by
      have := Rat.natCast_le_natCast.2 herr.1
      rw [Rat.natCast_add, natR_mul, natR_mul, natR_mul] at this
      exact this
    have c2 : (2 : Rat) * (m : Rat) ≤ 2 * ((kept : Rat) * ((2 ^ d : Nat) : Rat)) + ((2 ^ d : Nat) : Rat) := by
      have := Rat.natCast_le_natCast.2 herr.2
      rw [Rat.natCast_add, natR_mul, natR_mul, natR_mul] at this
      exact this
    have d1 := Rat.mul_le_mul_of_nonneg_right c1 (Rat.le_of_lt (w2_pos e))
    have d2 := Rat.mul_le_mul_of_nonneg_right c2 (Rat.le_of_lt (w2_pos e))
    have hw : w2 (k.format.leastPlace + p) = ((2 ^ d : Nat) : Rat) * w2 e := by rw [hLp, w2_add, w2_nat]; grind
    have hhalf : w2 (k.format.leastPlace + p) = 2 * w2 (k.format.leastPlace + p - 1) := by
      rw [show k.format.leastPlace + (p : Int) = 1 + (k.format.leastPlace + p - 1) by omega, w2_add, w2_one]
      congr 2; omega
    have main : Near ((kept : Rat) * w2 (k.format.leastPlace + p)) (m * w2 e) (w2 (k.format.leastPlace + p - 1)) := by
      rw [hw] at *
      exact ⟨by grind, by grind⟩
    rcases Nat.eq_zero_or_pos p with hp | hp
    · subst hp
      right
      refine ⟨by omega, ?_⟩
      simpa using main
    · left
      refine main.mono ?_
      have h4 := h2 hp
      have h5 : ((2 ^ m.log2 : Nat) : Rat) ≤ (m : Rat) := Rat.natCast_le_natCast.2 (Nat.log2_self_le hm)
      rw [← w2_nat] at h5
      have h6 := Rat.mul_le_mul_of_nonneg_right h5 (Rat.le_of_lt (w2_pos e))
      have h7 := Rat.mul_le_mul_of_nonneg_right h6 (Rat.le_of_lt hup)
      rw [← w2_add, ← w2_add] at h7
      rw [show k.format.leastPlace + (p : Int) - 1 = (m.log2 : Int) + e + (-(k.format.fractionBits : Int) - 1) by omega]
      exact h7
  · -- exact
    have h0 : (k.format.leastPlace + p - e).toNat = 0 := by omega
    rw [h0] at herr
    have hkept : kept = m * 2 ^ (e - (k.format.leastPlace + p)).toNat := by simp only [Nat.pow_zero] at herr; omega
    have : (kept : Rat) * w2 (k.format.leastPlace + p) = m * w2 e := by
      rw [hkept, natR_mul, ← w2_nat, Rat.mul_assoc, ← w2_add]
      congr 2; omega
    rw [this]
    exact ⟨.inl (Near.refl (Rat.mul_nonneg hme (Rat.le_of_lt hup))), fun _ _ => rfl⟩

def top : FloatKind → Int
  | .f32 => 127
  | .f64 => 1023

theorem mag_inf_log (k : FloatKind) (K : Nat) (hK : K = match k with | .f32 => 277 | .f64 => 2098) : mag k.format.binade k.format.infRung = 2 ^ K := by
  have hB : 0 < k.format.binade := Nat.two_pow_pos _
  have h1 : k.format.infRung = (K - k.format.fractionBits) * k.format.binade + k.format.binade := by subst hK; cases k <;> decide
  have h2 : k.format.fractionBits ≤ K := by subst hK; cases k <;> decide
  rw [h1, mag_kept hB (by omega) (fun _ => Nat.le_refl _)]
  unfold Format.binade
  rw [← Nat.pow_add]
  congr 1; omega

theorem mag_inf (k : FloatKind) : (mag k.format.binade k.format.infRung : Rat) * w2 k.format.leastPlace = w2 (top k + 1) := by
  rw [mag_inf_log k _ rfl, ← w2_nat, ← w2_add]
  cases k <;> rfl

theorem small_u (k : FloatKind) : w2 (-(k.format.fractionBits : Int) - 1) ≤ 1 / 16777216 := by
  cases k <;> decide +kernel
theorem small_h (k : FloatKind) : w2 (k.format.leastPlace - 1) ≤ 1 / 16777216 := by
  cases k <;> decide +kernel

/-- the error of one rounding -/
def un (k : FloatKind) : Rat := w2 (-(k.format.fractionBits : Int) - 1)
def et (k : FloatKind) : Rat := w2 (k.format.leastPlace - 1)

theorem fin_word {k : FloatKind} {s : Bool} {g : Nat} (hg : g < k.format.infRung) :
    fin k (k.format.word s g) ∧ sg k (k.format.word s g) = s ∧ R k (k.format.word s g) = (if s then -((mag k.format.binade g : Rat) * w2 k.format.leastPlace) else (mag k.format.binade g : Rat) * w2 k.format.leastPlace) := by
  obtain ⟨h1, h2, h3⟩ := word_fin (k := k) (s := s) hg
  refine ⟨h1, h3, ?_⟩
  unfold R Z
  rw [h2, h3]
  cases s
  · simp only [Bool.false_eq_true, if_false]
    rw [Rat.intCast_natCast]
  · simp only [if_true]
    rw [Rat.intCast_neg, Rat.intCast_natCast]
    grind

/-- Rounding: the written number is finite, has the sign, and is near. -/
theorem round_R (k : FloatKind) (s : Bool) (m : Nat) (e : Int) (hb : (m : Rat) * w2 e ≤ w2 (top k)) :
    fin k (k.format.nearest s m e) ∧ sg k (k.format.nearest s m e) = s ∧
      ∃ v, 0 ≤ v ∧ R k (k.format.nearest s m e) = (if s then -v else v) ∧
        (Near v (m * w2 e) ((m : Rat) * w2 e * un k) ∨ (e < k.format.leastPlace ∧ Near v (m * w2 e) (et k))) ∧
        (m < 2 ^ (k.format.fractionBits + 1) → k.format.leastPlace ≤ e → v = m * w2 e) := by
  obtain ⟨g, hn, herr, hex⟩ := near_err k s m e
  have hme : 0 ≤ (m : Rat) * w2 e := Rat.mul_nonneg (Rat.natCast_nonneg) (Rat.le_of_lt (w2_pos e))
  have htop : w2 (top k + 1) = 2 * w2 (top k) := by rw [w2_add, w2_one]; grind
  have h1 : (1 : Rat) ≤ w2 (top k) := by cases k <;> decide +kernel
  have hlt : g < k.format.infRung := by
    refine Nat.lt_of_not_le fun hle => ?_
    have h2 : (mag k.format.binade k.format.infRung : Rat) ≤ (mag k.format.binade g : Rat) := Rat.natCast_le_natCast.2 (mag_mono (Nat.two_pow_pos _) hle)
    have h3 := Rat.mul_le_mul_of_nonneg_right h2 (Rat.le_of_lt (w2_pos k.format.leastPlace))
    rw [mag_inf, htop] at h3
    rcases herr with h | ⟨_, h⟩
    · have h4 := h.2
      have h5 := Rat.mul_le_mul_of_nonneg_left (small_u k) hme
      grind
    · have h4 := h.2
      have h5 := small_h k
      grind
  rw [hn, Nat.min_eq_left (Nat.le_of_lt hlt)]
  obtain ⟨f1, f2, f3⟩ := fin_word (s := s) hlt
  refine ⟨f1, f2, _, Rat.mul_nonneg Rat.natCast_nonneg (Rat.le_of_lt (w2_pos _)), f3, herr, hex⟩

end Go.Fw
/- The operations on floating point numbers, as rational numbers with errors. No condition. -/
set_option linter.unusedVariables false
set_option linter.unusedSimpArgs false
namespace Go.Fw
open Ieee

def sgR (s : Bool) (v : Rat) : Rat := if s then -v else v

theorem sgR_xor (s t : Bool) (v w : Rat) : sgR s v * sgR t w = sgR (s ^^ t) (v * w) := by
  cases s <;> cases t <;> simp [sgR] <;> grind
theorem Near.sg {x a e : Rat} (s : Bool) (h : Near x a e) : Near (sgR s x) (sgR s a) e := by
  cases s
  · exact h
  · exact h.neg

theorem R_V (k : FloatKind) (x : Nat) : R k x = sgR (sg k x) ((V k x : Rat) * w2 k.format.leastPlace) := by
  unfold R Z sgR
  cases sg k x
  · simp only [Bool.false_eq_true, if_false]; rw [Rat.intCast_natCast]
  · simp only [if_true]; rw [Rat.intCast_neg, Rat.intCast_natCast]; grind

theorem R_read {k : FloatKind} {x : Nat} (h : fin k x) : ∃ m a : Nat, k.format.read x = .number (sg k x) m (k.format.leastPlace + a) ∧ R k x = sgR (sg k x) ((m : Rat) * w2 (k.format.leastPlace + a)) := by
  obtain ⟨m, a, hr, e⟩ := fin_read h
  refine ⟨m, a, hr, ?_⟩
  rw [R_V, ← e, natR_mul, w2_add, ← w2_nat]
  congr 1; grind

theorem Z_R {k : FloatKind} {x : Nat} {z : Int} : (Z k x = z) ↔ R k x = (z : Rat) * w2 k.format.leastPlace := by
  unfold R
  constructor
  · intro h; rw [h]
  · intro h
    have hp := w2_pos k.format.leastPlace
    have : (Z k x : Rat) = (z : Rat) := by
      have h1 : ((Z k x : Rat) - z) * w2 k.format.leastPlace = 0 := by grind
      rcases Rat.mul_eq_zero.1 h1 with h2 | h2
      · grind
      · rw [h2] at hp; exact absurd hp (by decide)
    exact Rat.intCast_inj.1 this

/-- Between -M and M. -/
def In (a M : Rat) : Prop := -M ≤ a ∧ a ≤ M

theorem In.sgR {s : Bool} {v M : Rat} (h : In (Fw.sgR s v) M) (_ : 0 ≤ v) : v ≤ M := by
  cases s
  · exact h.2
  · have := h.1; simp [Fw.sgR] at this; grind
theorem In.mono {a M N : Rat} (h : In a M) (hn : M ≤ N) : In a N := ⟨by have := h.1; grind, by have := h.2; grind⟩
theorem In.near {a x M e : Rat} (h : In a M) (hx : Near x a e) : In x (M + e) := ⟨by have := h.1; have := hx.1; grind, by have := h.2; have := hx.2; grind⟩
theorem In.mul {a b A B : Rat} (h : In a A) (h' : In b B) : In (a * b) (A * B) := by
  have h1 := Rat.mul_nonneg (a := A - a) (b := B + b) (by have := h.2; grind) (by have := h'.1; grind)
  have h2 := Rat.mul_nonneg (a := A + a) (b := B - b) (by have := h.1; grind) (by have := h'.2; grind)
  have h3 := Rat.mul_nonneg (a := A - a) (b := B - b) (by have := h.2; grind) (by have := h'.2; grind)
  have h4 := Rat.mul_nonneg (a := A + a) (b := B + b) (by have := h.1; grind) (by have := h'.1; grind)
  exact ⟨by grind, by grind⟩
theorem In.add {a b A B : Rat} (h : In a A) (h' : In b B) : In (a + b) (A + B) := ⟨by have := h.1; have := h'.1; grind, by have := h.2; have := h'.2; grind⟩
theorem In.sub {a b A B : Rat} (h : In a A) (h' : In b B) : In (a - b) (A + B) := ⟨by have := h.1; have := h'.2; grind, by have := h.2; have := h'.1; grind⟩
theorem In.neg {a A : Rat} (h : In a A) : In (-a) A := ⟨by have := h.2; grind, by have := h.1; grind⟩

theorem intR_nonneg {z : Int} (h : 0 ≤ z) : ((z.natAbs : Nat) : Rat) = z := by
  rw [← Rat.intCast_natCast, Int.natAbs_of_nonneg h]
theorem intR_neg {z : Int} (h : z < 0) : ((z.natAbs : Nat) : Rat) = -(z : Rat) := by
  rw [← Rat.intCast_natCast, Int.ofNat_natAbs_of_nonpos (Int.le_of_lt h), Rat.intCast_neg]

/-- what a sum is -/
theorem sum_R {k : FloatKind} {z : Int} {M c : Nat} {t : Bool} (h : M * 2 ^ c = z.natAbs) :
    sgR (if z = 0 then t else decide (z < 0)) ((M : Rat) * w2 (k.format.leastPlace + c)) = (z : Rat) * w2 k.format.leastPlace := by
  have h1 : (M : Rat) * w2 (k.format.leastPlace + c) = ((z.natAbs : Nat) : Rat) * w2 k.format.leastPlace := by
    rw [← h, natR_mul, w2_add, ← w2_nat]; grind
  rw [h1]
  by_cases h0 : z = 0
  · subst h0
    have e0 : ((Int.natAbs 0 : Nat) : Rat) = 0 := rfl
    have e1 : ((0 : Int) : Rat) = 0 := rfl
    rw [e0, e1, Rat.zero_mul]
    simp only [if_pos]
    cases t
    · rfl
    · show -(0 : Rat) = 0; grind
  · rw [if_neg h0]
    by_cases hn : z < 0
    · rw [decide_eq_true hn, intR_neg hn]
      show -(-(z : Rat) * _) = _
      grind
    · rw [decide_eq_false hn, intR_nonneg (by omega)]
      rfl

section ops
variable {k : FloatKind} {x y : Nat}

theorem fmul_fin (hx : fin k x) (hy : fin k y) : ∃ (m : Nat) (e : Int), fmul k x y = k.format.nearest (sg k x ^^ sg k y) m e ∧ sgR (sg k x ^^ sg k y) ((m : Rat) * w2 e) = R k x * R k y := by
  obtain ⟨m, a, hr, e⟩ := R_read hx
  obtain ⟨n, b, hr', e'⟩ := R_read hy
  refine ⟨m * n, k.format.leastPlace + a + (k.format.leastPlace + b), ?_, ?_⟩
  · unfold fmul fop floatBits Format.mul
    rw [hr, hr']; rfl
  · rw [e, e', sgR_xor, natR_mul, w2_add (k.format.leastPlace + a)]
    congr 1; grind

/-! ### exact results -/
theorem round_exact {k : FloatKind} {s : Bool} {m : Nat} {e : Int} {t : Nat} (ht : fin k t) (h : sgR s ((m : Rat) * w2 e) = R k t) :
    fin k (k.format.nearest s m e) ∧ R k (k.format.nearest s m e) = R k t := by
  have hv : 0 ≤ (m : Rat) * w2 e := Rat.mul_nonneg (Rat.natCast_nonneg) (Rat.le_of_lt (w2_pos _))
  have hv2 : 0 ≤ (V k t : Rat) * w2 k.format.leastPlace := Rat.mul_nonneg (Rat.natCast_nonneg) (Rat.le_of_lt (w2_pos _))
  have hval : (m : Rat) * w2 e = (V k t : Rat) * w2 k.format.leastPlace := by
    rw [R_V] at h
    cases s <;> cases sg k t <;> simp [sgR] at h <;> grind
  have hnat : m * 2 ^ (e - k.format.leastPlace).toNat = V k t * 2 ^ (k.format.leastPlace - e).toNat := by
    apply Rat.natCast_inj.1
    rw [natR_mul, natR_mul, ← w2_nat, ← w2_nat]
    rcases Int.le_total e k.format.leastPlace with hl | hl
    · have e1 : ((e - k.format.leastPlace).toNat : Int) = 0 := by omega
      have e2 : ((k.format.leastPlace - e).toNat : Int) = k.format.leastPlace - e := by omega
      rw [e1, e2, w2_zero]
      have hw : w2 k.format.leastPlace = w2 (k.format.leastPlace - e) * w2 e := by rw [← w2_add]; congr 1; omega
      rw [hw] at hval
      have h3 : ((m : Rat) - (V k t : Rat) * w2 (k.format.leastPlace - e)) * w2 e = 0 := by grind
      rcases Rat.mul_eq_zero.1 h3 with h4 | h4
      · grind
      · exact absurd (w2_pos e) (by rw [h4]; decide)
    · have e1 : ((k.format.leastPlace - e).toNat : Int) = 0 := by omega
      have e2 : ((e - k.format.leastPlace).toNat : Int) = e - k.format.leastPlace := by omega
      rw [e1, e2, w2_zero]
      have hw : w2 e = w2 (e - k.format.leastPlace) * w2 k.format.leastPlace := by rw [← w2_add]; congr 1; omega
      rw [hw] at hval
      have h3 : ((m : Rat) * w2 (e - k.format.leastPlace) - (V k t : Rat)) * w2 k.format.leastPlace = 0 := by grind
      rcases Rat.mul_eq_zero.1 h3 with h4 | h4
      · grind
      · exact absurd (w2_pos k.format.leastPlace) (by rw [h4]; decide)
  have ht' : t % k.format.signWeight < k.format.infRung := ht
  have hn := near_eq k.format s (m := m) (e := e) (r := t % k.format.signWeight) (Nat.le_of_lt ht') hnat
  rw [hn]
  obtain ⟨f1, f2, f3⟩ := fin_word (k := k) (s := s) ht'
  refine ⟨f1, ?_⟩
  rw [f3]
  rw [← h, hval]
  rfl

theorem add_E {t : Nat} (hx : fin k x) (hy : fin k y) (ht : fin k t) (h : R k x + R k y = R k t) : fin k (fadd k x y) ∧ R k (fadd k x y) = R k x + R k y := by
  obtain ⟨m, c, h1, h2⟩ := fadd_fin hx hy
  have hz : R k x + R k y = ((Z k x + Z k y : Int) : Rat) * w2 k.format.leastPlace := by
    unfold R; rw [Rat.intCast_add]; grind
  rw [h1, h]
  rw [hz, ← sum_R (k := k) (t := sg k x && sg k y) h2] at h
  exact round_exact ht h

theorem sub_E {t : Nat} (hx : fin k x) (hy : fin k y) (ht : fin k t) (h : R k x - R k y = R k t) : fin k (fsub k x y) ∧ R k (fsub k x y) = R k x - R k y := by
  obtain ⟨m, c, h1, h2⟩ := fsub_fin hx hy
  have hz : R k x - R k y = ((Z k x - Z k y : Int) : Rat) * w2 k.format.leastPlace := by
    unfold R; rw [Rat.intCast_sub]; grind
  rw [h1, h]
  rw [hz, ← sum_R (k := k) (t := sg k x && !sg k y) h2] at h
  exact round_exact ht h

theorem mul_E {t : Nat} (hx : fin k x) (hy : fin k y) (ht : fin k t) (h : R k x * R k y = R k t) : fin k (fmul k x y) ∧ R k (fmul k x y) = R k x * R k y := by
  obtain ⟨m, e, h1, h2⟩ := fmul_fin hx hy
  rw [h1, h]
  rw [← h2] at h
  exact round_exact ht h

end ops

/-! ### numbers that words have: whole numbers with few digits at a place -/
theorem rep_R (k : FloatKind) (n : Int) (e : Int) (hn : n.natAbs < 2 * k.format.binade) (h1 : k.format.leastPlace ≤ e) (h2 : e + k.format.fractionBits + 1 ≤ top k) : ∃ t, fin k t ∧ R k t = (n : Rat) * w2 e := by
  have hv : (n.natAbs : Rat) * w2 e ≤ w2 (top k) := by
    have h3 : (n.natAbs : Rat) ≤ ((2 * k.format.binade : Nat) : Rat) := Rat.natCast_le_natCast.2 (by omega)
    have h4 : ((2 * k.format.binade : Nat) : Rat) = w2 ((k.format.fractionBits + 1 : Nat) : Int) := by
      rw [w2_nat]; congr 1; unfold Format.binade; rw [Nat.pow_succ, Nat.mul_comm]
    rw [h4] at h3
    have h5 := Rat.mul_le_mul_of_nonneg_right h3 (Rat.le_of_lt (w2_pos e))
    rw [← w2_add] at h5
    have h6 : w2 (((k.format.fractionBits + 1 : Nat) : Int) + e) ≤ w2 (top k) := w2_le (by omega)
    grind
  obtain ⟨f1, _, v, _, f3, _, f5⟩ := round_R k (decide (n < 0)) n.natAbs e hv
  refine ⟨_, f1, ?_⟩
  rw [f3, f5 (by rw [Nat.pow_succ, Nat.mul_comm]; exact hn) h1]
  by_cases h0 : n < 0
  · rw [decide_eq_true h0, if_pos rfl, intR_neg h0]; grind
  · rw [decide_eq_false h0, intR_nonneg (by omega)]; rfl

end Go.Fw
/- Quotients, conversions, roots and comparisons, as rational numbers with errors. No condition. -/
set_option linter.unusedVariables false
set_option linter.unusedSimpArgs false
namespace Go.Fw
open Ieee

section ops
variable {k : FloatKind} {x y : Nat}

theorem feq_R (hx : fin k x) (hy : fin k y) : feq k x y = decide (R k x = R k y) := by
  rw [feq_fin hx hy]
  by_cases h : Z k x = Z k y
  · rw [decide_eq_true h, decide_eq_true]; unfold R; rw [h]
  · rw [decide_eq_false h, decide_eq_false]
    intro hl
    exact h (Z_R.2 hl)

end ops
end Go.Fw
/- Conversions and roots, as rational numbers with errors. No condition. -/
set_option linter.unusedVariables false
set_option linter.unusedSimpArgs false
namespace Go.Fw
open Ieee

/-! ### square roots -/
end Go.Fw
/- Exact arithmetic: whole numbers at a place. No condition. -/
set_option linter.unusedVariables false
set_option linter.unusedSimpArgs false
namespace Go.Fw
open Ieee

theorem fneg_R {k : FloatKind} {x : Nat} (hx : okF k x) (hf : fin k x) : fin k (fneg k x) ∧ R k (fneg k x) = -R k x := by
  have hn := fin_nan hf
  have hn2 : isNan k (Op.negFloat k x) = false := by rw [isNan_neg]; exact hn
  have e : fneg k x = Op.negFloat k x := by unfold fneg; rw [canon_num hn2]
  have hm : Op.negFloat k x % k.format.signWeight = x % k.format.signWeight := neg_mod k.format x
  have hs : sg k (Op.negFloat k x) = !sg k x := by
    have hlt := hx.lt
    unfold sg Op.negFloat
    have h1 : ∀ w : Nat, x < 2 ^ (w + 1) → ((x ^^^ 2 ^ w) / 2 ^ w % 2 == 1) = !(x / 2 ^ w % 2 == 1) := fun w hw => by
      have : (x ^^^ 2 ^ w) / 2 ^ w = x / 2 ^ w ^^^ 1 := by
        rw [← Nat.shiftRight_eq_div_pow, ← Nat.shiftRight_eq_div_pow, Nat.shiftRight_xor_distrib, Nat.shiftRight_eq_div_pow (2 ^ w), Nat.div_self (Nat.two_pow_pos w)]
      rw [this]
      have h2 : x / 2 ^ w < 2 := Nat.div_lt_of_lt_mul (by rw [Nat.pow_succ] at hw; exact hw)
      generalize x / 2 ^ w = q at *
      have : q = 0 ∨ q = 1 := by omega
      rcases this with h | h <;> rw [h] <;> rfl
    cases k
    · exact h1 31 hlt
    · exact h1 63 hlt
  rw [e]
  refine ⟨by unfold fin; rw [hm]; exact hf, ?_⟩
  rw [R_V, R_V, hs]
  have : V k (Op.negFloat k x) = V k x := by unfold V; rw [hm]
  rw [this]
  cases sg k x
  · rfl
  · simp [sgR]

/-- x is n / 2 ^ d, and n is not greater than N. -/
def Ev (x : Nat) (n : Int) (d N : Nat) : Prop := fin .f32 x ∧ R .f32 x = (n : Rat) * w2 (-(d : Int)) ∧ n.natAbs ≤ N

theorem Ev.rep {n : Int} {d N : Nat} (h : n.natAbs ≤ N) (hN : N < 16777216) (hd : d ≤ 149) : ∃ t, fin .f32 t ∧ R .f32 t = (n : Rat) * w2 (-(d : Int)) :=
  rep_R .f32 n (-(d : Int)) (by have : 2 * FloatKind.f32.format.binade = 16777216 := rfl
                                omega) (by have : FloatKind.f32.format.leastPlace = -149 := rfl
                                           omega) (by have : FloatKind.f32.format.fractionBits = 23 := rfl
                                                      have : top .f32 = 127 := rfl
                                                      omega)

theorem Ev.add {x y : Nat} {n m : Int} {d N M : Nat} (hx : Ev x n d N) (hy : Ev y m d M) (hN : N + M < 16777216) (hd : d ≤ 149) : Ev (fadd .f32 x y) (n + m) d (N + M) := by
  have hb : (n + m).natAbs ≤ N + M := by have := hx.2.2; have := hy.2.2; omega
  obtain ⟨t, t1, t2⟩ := Ev.rep (d := d) hb hN hd
  have e : R .f32 x + R .f32 y = ((n + m : Int) : Rat) * w2 (-(d : Int)) := by rw [hx.2.1, hy.2.1, Rat.intCast_add]; grind
  obtain ⟨h1, h2⟩ := add_E hx.1 hy.1 t1 (by rw [e, t2])
  exact ⟨h1, by rw [h2, e], hb⟩
theorem Ev.sub {x y : Nat} {n m : Int} {d N M : Nat} (hx : Ev x n d N) (hy : Ev y m d M) (hN : N + M < 16777216) (hd : d ≤ 149) : Ev (fsub .f32 x y) (n - m) d (N + M) := by
  have hb : (n - m).natAbs ≤ N + M := by have := hx.2.2; have := hy.2.2; omega
  obtain ⟨t, t1, t2⟩ := Ev.rep (d := d) hb hN hd
  have e : R .f32 x - R .f32 y = ((n - m : Int) : Rat) * w2 (-(d : Int)) := by rw [hx.2.1, hy.2.1, Rat.intCast_sub]; grind
  obtain ⟨h1, h2⟩ := sub_E hx.1 hy.1 t1 (by rw [e, t2])
  exact ⟨h1, by rw [h2, e], hb⟩
theorem Ev.mul {x y : Nat} {n m : Int} {d e N M : Nat} (hx : Ev x n d N) (hy : Ev y m e M) (hN : N * M < 16777216) (hd : d + e ≤ 149) : Ev (fmul .f32 x y) (n * m) (d + e) (N * M) := by
  have hb : (n * m).natAbs ≤ N * M := by rw [Int.natAbs_mul]; exact Nat.mul_le_mul hx.2.2 hy.2.2
  obtain ⟨t, t1, t2⟩ := Ev.rep (d := d + e) hb hN hd
  have ee : R .f32 x * R .f32 y = ((n * m : Int) : Rat) * w2 (-((d + e : Nat) : Int)) := by
    rw [hx.2.1, hy.2.1, Rat.intCast_mul, show -((d + e : Nat) : Int) = -(d : Int) + -(e : Int) by omega, w2_add]; grind
  obtain ⟨h1, h2⟩ := mul_E hx.1 hy.1 t1 (by rw [ee, t2])
  exact ⟨h1, by rw [h2, ee], hb⟩
theorem Ev.up {x : Nat} {n : Int} {d N : Nat} (k : Nat) (h : Ev x n d N) : Ev x (n * ((2 ^ k : Nat) : Int)) (d + k) (N * 2 ^ k) := by
  refine ⟨h.1, ?_, ?_⟩
  · rw [h.2.1, Rat.intCast_mul, Rat.intCast_natCast, ← w2_nat, show -(d : Int) = (k : Int) + -((d + k : Nat) : Int) by omega, w2_add]; grind
  · rw [Int.natAbs_mul, Int.natAbs_natCast]; exact Nat.mul_le_mul_right _ h.2.2
theorem Ev.neg {x : Nat} {n : Int} {d N : Nat} (hx : okF .f32 x) (h : Ev x n d N) : Ev (fneg .f32 x) (-n) d N := by
  obtain ⟨h1, h2⟩ := fneg_R hx h.1
  exact ⟨h1, by rw [h2, h.2.1, Rat.intCast_neg]; grind, by have := h.2.2; omega⟩
theorem Ev.feq {x y : Nat} {n : Int} {d N M : Nat} (hx : Ev x n d N) (hy : Ev y n d M) : Fw.feq .f32 x y = true := by
  rw [feq_R hx.1 hy.1, hx.2.1, hy.2.1]; exact decide_eq_true rfl
end Go.Fw
