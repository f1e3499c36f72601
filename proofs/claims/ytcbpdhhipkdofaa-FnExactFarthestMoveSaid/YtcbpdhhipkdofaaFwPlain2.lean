/- Plain facts for printed texts: what an optional value comes to; loops with invariants; conditions as propositions. No condition. -/
import Derived.Test.YtcbpdhhipkdofaaFwFlt3
namespace Go.Fw

/-- It comes to a value with the property. -/
def Ret {α : Type} (x : Option α) (Q : α → Prop) : Prop := ∃ y, x = some y ∧ Q y

theorem Ret.pure {α : Type} {y : α} {Q : α → Prop} (h : Q y) : Ret (some y) Q := ⟨y, rfl, h⟩
theorem Ret.bind {α β : Type} {x : Option α} {f : α → Option β} {Q : β → Prop} (h : Ret x fun y => Ret (f y) Q) : Ret (Option.bind x f) Q := by
  obtain ⟨y, rfl, z, hz, hq⟩ := h
  exact ⟨z, hz, hq⟩
theorem Ret.bind' {α β : Type} {x : Option α} {f : α → Option β} {P : α → Prop} {Q : β → Prop} (h : Ret x P) (h' : ∀ y, x = some y → P y → Ret (f y) Q) : Ret (Option.bind x f) Q := by
  obtain ⟨y, rfl, hp⟩ := h
  exact h' y rfl hp
theorem Ret.cond {α : Type} {c : Bool} {a b : Option α} {Q : α → Prop} (h : c = true → Ret a Q) (h' : c = false → Ret b Q) : Ret (bif c then a else b) Q := by
  cases c
  · exact h' rfl
  · exact h rfl
theorem Ret.ix {α : Type} {i : Int} {n : Nat} {f : Nat → Option α} {Q : α → Prop} (h0 : 0 ≤ i) (h1 : i < n) (h : Ret (f i.toNat) Q) : Ret (Option.bind (ix i n) f) Q := by
  rw [ix_ok h0 h1]; exact h
theorem Ret.mono {α : Type} {x : Option α} {P Q : α → Prop} (h : Ret x P) (hpq : ∀ y, P y → Q y) : Ret x Q := by
  obtain ⟨y, hy, hp⟩ := h
  exact ⟨y, hy, hpq y hp⟩
theorem Ret.of_eq {α : Type} {x : Option α} {y : α} {Q : α → Prop} (h : x = some y) (hq : Q y) : Ret x Q := ⟨y, h, hq⟩

theorem Ret.iter {D O : Type} {step : (D → Option O) → D → Option O} (P : Nat → D → Prop) (Q : O → Prop)
    (h : ∀ r n d, P n d → (∀ m d', m < n → P m d' → Ret (r d') Q) → Ret (step r d) Q) : ∀ N n d, P n d → n < N → Ret (iter step N d) Q := by
  intro N
  induction N with
  | zero => intro n d _ h0; omega
  | succ N ih =>
    intro n d hp hn
    rw [iter_succ]
    exact h _ n d hp fun m d' hm hp' => ih m d' hp' (by omega)

/-- Both come to values that belong together. -/
def Ret2 {α β : Type} (x : Option α) (x' : Option β) (Q : α → β → Prop) : Prop := ∃ y y', x = some y ∧ x' = some y' ∧ Q y y'

theorem Ret2.pure {α β : Type} {y : α} {y' : β} {Q : α → β → Prop} (h : Q y y') : Ret2 (some y) (some y') Q := ⟨y, y', rfl, rfl, h⟩
theorem Ret2.bind' {α β α' β' : Type} {x : Option α} {f : α → Option β} {x' : Option α'} {f' : α' → Option β'} {P : α → α' → Prop} {Q : β → β' → Prop} (h : Ret2 x x' P) (h' : ∀ y y', P y y' → Ret2 (f y) (f' y') Q) : Ret2 (Option.bind x f) (Option.bind x' f') Q := by
  obtain ⟨y, y', rfl, rfl, hp⟩ := h
  exact h' y y' hp
theorem Ret2.cond {α β : Type} {c c' : Bool} {a b : Option α} {a' b' : Option β} {Q : α → β → Prop} (hc : c = c') (h : c = true → Ret2 a a' Q) (h' : c = false → Ret2 b b' Q) : Ret2 (bif c then a else b) (bif c' then a' else b') Q := by
  subst hc
  cases c
  · exact h' rfl
  · exact h rfl
theorem Ret2.condL {α β : Type} {c : Bool} {a b : Option α} {a' : Option β} {Q : α → β → Prop} (h : c = true → Ret2 a a' Q) (h' : c = false → Ret2 b a' Q) : Ret2 (bif c then a else b) a' Q := by
  cases c
  · exact h' rfl
  · exact h rfl
theorem Ret2.condR {α β : Type} {c : Bool} {a : Option α} {a' b' : Option β} {Q : α → β → Prop} (h : c = true → Ret2 a a' Q) (h' : c = false → Ret2 a b' Q) : Ret2 a (bif c then a' else b') Q := by
  cases c
  · exact h' rfl
  · exact h rfl
theorem Ret2.ixL {α β : Type} {i : Int} {n : Nat} {f : Nat → Option α} {x' : Option β} {Q : α → β → Prop} (h0 : 0 ≤ i) (h1 : i < n) (h : Ret2 (f i.toNat) x' Q) : Ret2 (Option.bind (Fw.ix i n) f) x' Q := by
  rw [ix_ok h0 h1]; exact h
theorem Ret2.ixR {α β : Type} {i : Int} {n : Nat} {f : Nat → Option β} {x : Option α} {Q : α → β → Prop} (h0 : 0 ≤ i) (h1 : i < n) (h : Ret2 x (f i.toNat) Q) : Ret2 x (Option.bind (Fw.ix i n) f) Q := by
  rw [ix_ok h0 h1]; exact h
theorem Ret2.mono {α β : Type} {x : Option α} {x' : Option β} {P Q : α → β → Prop} (h : Ret2 x x' P) (hpq : ∀ y y', P y y' → Q y y') : Ret2 x x' Q := by
  obtain ⟨y, y', hy, hy', hp⟩ := h
  exact ⟨y, y', hy, hy', hpq y y' hp⟩
theorem Ret2.iter {D O D' O' : Type} {step : (D → Option O) → D → Option O} {step' : (D' → Option O') → D' → Option O'} (P : Nat → D → D' → Prop) (Q : O → O' → Prop)
    (h : ∀ r r' n d e, P n d e → (∀ m d' e', m < n → P m d' e' → Ret2 (r d') (r' e') Q) → Ret2 (step r d) (step' r' e) Q) : ∀ N n d e, P n d e → n < N → Ret2 (iter step N d) (iter step' N e) Q := by
  intro N
  induction N with
  | zero => intro n d e _ h0; omega
  | succ N ih =>
    intro n d e hp hn
    rw [iter_succ, iter_succ]
    exact h _ _ n d e hp fun m d' e' hm hp' => ih m d' e' hp' (by omega)

/-- Both come to the same value, which has the property. -/
def Same {α : Type} (x x' : Option α) (Q : α → Prop) : Prop := ∃ y, x = some y ∧ x' = some y ∧ Q y
theorem Same.of {α : Type} {x x' : Option α} {Q : α → Prop} (h : x = x') (hr : Ret x Q) : Same x x' Q := by
  obtain ⟨y, hy, hq⟩ := hr
  exact ⟨y, hy, h ▸ hy, hq⟩
theorem Same.ret {α : Type} {x x' : Option α} {Q : α → Prop} (h : Same x x' Q) : Ret x Q := by
  obtain ⟨y, hy, _, hq⟩ := h
  exact ⟨y, hy, hq⟩
theorem Same.eq {α : Type} {x x' : Option α} {Q : α → Prop} (h : Same x x' Q) : x = x' := by
  obtain ⟨y, hy, hy', hq⟩ := h
  rw [hy, hy']
theorem Same.two {α : Type} {x x' : Option α} {Q : α → Prop} (h : Same x x' Q) : Ret2 x x' fun y y' => y = y' ∧ Q y := by
  obtain ⟨y, hy, hy', hq⟩ := h
  exact ⟨y, y, hy, hy', rfl, hq⟩
theorem Ret2.same {α : Type} {x x' : Option α} {Q : α → Prop} (h : Ret2 x x' fun y y' => y = y' ∧ Q y) : Same x x' Q := by
  obtain ⟨y, _, hy, hy', rfl, hq⟩ := h
  exact ⟨y, hy, hy', hq⟩
theorem Same.pure {α : Type} {y : α} {Q : α → Prop} (h : Q y) : Same (some y) (some y) Q := ⟨y, rfl, rfl, h⟩

theorem opt_bind_assoc {α β γ : Type} (x : Option α) (f : α → Option β) (g : β → Option γ) : Option.bind (Option.bind x f) g = Option.bind x fun y => Option.bind (f y) g := by cases x <;> rfl
theorem opt_bind_cond {α β : Type} (c : Bool) (a b : Option α) (g : α → Option β) : Option.bind (bif c then a else b) g = bif c then Option.bind a g else Option.bind b g := by cases c <;> rfl
theorem szL_nil {α : Type} (s : α → Nat) : szL s [] = 0 := rfl

/-! ### conditions as propositions -/
theorem ilt_T (a b : Int) : (ilt a b = true) = (a < b) := by simp [ilt]
theorem ilt_F (a b : Int) : (ilt a b = false) = (b ≤ a) := by simp [ilt]
theorem ile_T (a b : Int) : (ile a b = true) = (a ≤ b) := by simp [ile]
theorem ile_F (a b : Int) : (ile a b = false) = (b < a) := by simp [ile]
theorem ieq_T (a b : Int) : (ieq a b = true) = (a = b) := by simp [ieq]
theorem ieq_F (a b : Int) : (ieq a b = false) = (a ≠ b) := by simp [ieq]
theorem bnot_T (b : Bool) : ((!b) = true) = (b = false) := by cases b <;> simp
theorem bnot_F (b : Bool) : ((!b) = false) = (b = true) := by cases b <;> simp
theorem ble_T (a b : Nat) : (Nat.ble a b = true) = (a ≤ b) := by simp
theorem ble_F (a b : Nat) : (Nat.ble a b = false) = (b < a) := by
  rw [eq_iff_iff]
  constructor
  · intro h
    rcases Nat.lt_or_ge b a with h' | h'
    · exact h'
    · rw [Nat.ble_eq_true_of_le h'] at h; cases h
  · intro h
    cases hb : Nat.ble a b
    · rfl
    · exact absurd (Nat.le_of_ble_eq_true hb) (by omega)
theorem nz_T (a : Int) : (nz a = true) = (a ≠ 0) := by simp [nz]
theorem nz_F (a : Int) : (nz a = false) = (a = 0) := by simp [nz]
theorem nonneg_T (a : Int) : (nonneg a = true) = (0 ≤ a) := by simp [nonneg]
theorem nonneg_F (a : Int) : (nonneg a = false) = (a < 0) := by simp [nonneg]

theorem irem_nn {a b : Int} (h : 0 ≤ a) : irem .i64 a b = a % b := Int.tmod_eq_emod_of_nonneg h
theorem iquo_nn {a b : Int} (h : 0 ≤ a) (hb : 0 < b) (h' : a < 9223372036854775808) : iquo .i64 a b = a / b := by
  have h1 : a / b ≤ a := Int.ediv_le_self b h
  have h2 : 0 ≤ a / b := Int.ediv_nonneg h (by omega)
  unfold iquo
  rw [Int.tdiv_eq_ediv_of_nonneg h, wrap_i64 (by omega) (by omega)]
theorem iquo_ok {a b : Int} (h : -9223372036854775808 ≤ a.tdiv b) (h' : a.tdiv b < 9223372036854775808) : iquo .i64 a b = a.tdiv b := wrap_i64 h h'

theorem ilt_not (a b : Int) : ilt a b = !(ile b a) := by unfold ilt ile; by_cases h : b ≤ a <;> simp [h] <;> omega
theorem ieq_comm (a b : Int) : ieq a b = ieq b a := by
  by_cases h : a = b
  · rw [h]
  · rw [ieq_f h, ieq_f (fun e => h e.symm)]
theorem szL_append {α : Type} (s : α → Nat) : ∀ (l m : List α), szL s (l ++ m) = szL s l + szL s m
  | [], m => by simp [szL]
  | x :: l, m => by simp only [List.cons_append, szL, szL_append s l m]; omega
theorem szL_set {α : Type} (s : α → Nat) (x : α) : ∀ (l : List α) (i : Nat), szL s (l.set i x) ≤ szL s l + s x
  | [], i => by simp [szL]
  | y :: l, 0 => by simp only [List.set_cons_zero, szL]; omega
  | y :: l, i + 1 => by have := szL_set s x l i; simp only [List.set_cons_succ, szL]; omega
theorem szL_replicate {α : Type} (s : α → Nat) (x : α) : ∀ n : Nat, szL s (List.replicate n x) = n * (1 + s x)
  | 0 => by simp [szL]
  | n + 1 => by simp only [List.replicate_succ, szL, szL_replicate s x n, Nat.add_mul]; omega

end Go.Fw
