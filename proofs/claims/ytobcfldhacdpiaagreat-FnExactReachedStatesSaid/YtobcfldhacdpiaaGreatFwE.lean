/- The abstract interpreter, its soundness, and plain facts: part 5. No condition. -/
import Derived.Test.YtobcfldhacdpiaaGreatFwD
/- Floating point numbers: the order turned round; how great a result can be; what can be narrowed. No condition. -/
namespace Go.Fw
open Ieee

/-! ### how great a number can be -/
/-- Canonical words. -/
def okF (k : FloatKind) (x : Nat) : Prop := x < 2 ^ k.format.width ∧ canon k x = x
theorem okF.lt {k : FloatKind} {x : Nat} (h : okF k x) : x < 2 ^ k.format.width := h.1
theorem okF.canon {k : FloatKind} {x : Nat} (h : okF k x) : Fw.canon k x = x := h.2
theorem okF.nan {k : FloatKind} {x : Nat} (h : okF k x) (hn : isNan k x = true) : x = qnan k := by rw [← h.canon, canon_nan hn]
theorem okF.of_num {k : FloatKind} {x : Nat} (h : x < 2 ^ k.format.width) (hn : isNan k x = false) : okF k x := ⟨h, canon_num hn⟩
end Go.Fw
/- Floating point numbers: what is widened and narrowed again is the same. No condition. -/
namespace Go.Fw
open Ieee

end Go.Fw
/- Plain facts for printed texts: what an optional value comes to; loops with invariants; conditions as propositions. No condition. -/
namespace Go.Fw

/-- It comes to a value with the property. -/
def Ret {α : Type} (x : Option α) (Q : α → Prop) : Prop := ∃ y, x = some y ∧ Q y

theorem Ret.pure {α : Type} {y : α} {Q : α → Prop} (h : Q y) : Ret (some y) Q := ⟨y, rfl, h⟩
theorem Ret.bind {α β : Type} {x : Option α} {f : α → Option β} {Q : β → Prop} (h : Ret x fun y => Ret (f y) Q) : Ret (Option.bind x f) Q := by
  obtain ⟨y, rfl, z, hz, hq⟩ := h
  exact ⟨z, hz, hq⟩
theorem Ret.bind' {α β : Type} {x : Option α} {f : α → Option β} {P : α → Prop} {Q : β → Prop} (h : Ret x P) (h' : ∀ y, x = some y → P y → Ret (f y) Q) : Ret (Option.bind x f) Q := by
  obtain ⟨y, rfl, hp⟩ := h
  exact h' y rfl hp
theorem Ret.cond {α : Type} {c : Bool} {a b : Option α} {Q : α → Prop} (h : c = true → Ret a Q) (h' : c = false → Ret b Q) : Ret (bif c then a else b) Q := by
  cases c
  · exact h' rfl
  · exact h rfl
theorem Ret.ix {α : Type} {i : Int} {n : Nat} {f : Nat → Option α} {Q : α → Prop} (h0 : 0 ≤ i) (h1 : i < n) (h : Ret (f i.toNat) Q) : Ret (Option.bind (ix i n) f) Q := by
  rw [ix_ok h0 h1]; exact h
theorem Ret.mono {α : Type} {x : Option α} {P Q : α → Prop} (h : Ret x P) (hpq : ∀ y, P y → Q y) : Ret x Q := by
  obtain ⟨y, hy, hp⟩ := h
  exact ⟨y, hy, hpq y hp⟩
theorem Ret.iter {D O : Type} {step : (D → Option O) → D → Option O} (P : Nat → D → Prop) (Q : O → Prop)
    (h : ∀ r n d, P n d → (∀ m d', m < n → P m d' → Ret (r d') Q) → Ret (step r d) Q) : ∀ N n d, P n d → n < N → Ret (iter step N d) Q := by
  intro N
  induction N with
  | zero => intro n d _ h0; omega
  | succ N ih =>
    intro n d hp hn
    rw [iter_succ]
    exact h _ n d hp fun m d' hm hp' => ih m d' hp' (by omega)

/-- Both come to values that belong together. -/
def Ret2 {α β : Type} (x : Option α) (x' : Option β) (Q : α → β → Prop) : Prop := ∃ y y', x = some y ∧ x' = some y' ∧ Q y y'

theorem Ret2.pure {α β : Type} {y : α} {y' : β} {Q : α → β → Prop} (h : Q y y') : Ret2 (some y) (some y') Q := ⟨y, y', rfl, rfl, h⟩
theorem Ret2.bind' {α β α' β' : Type} {x : Option α} {f : α → Option β} {x' : Option α'} {f' : α' → Option β'} {P : α → α' → Prop} {Q : β → β' → Prop} (h : Ret2 x x' P) (h' : ∀ y y', P y y' → Ret2 (f y) (f' y') Q) : Ret2 (Option.bind x f) (Option.bind x' f') Q := by
  obtain ⟨y, y', rfl, rfl, hp⟩ := h
  exact h' y y' hp
theorem Ret2.cond {α β : Type} {c c' : Bool} {a b : Option α} {a' b' : Option β} {Q : α → β → Prop} (hc : c = c') (h : c = true → Ret2 a a' Q) (h' : c = false → Ret2 b b' Q) : Ret2 (bif c then a else b) (bif c' then a' else b') Q := by
  subst hc
  cases c
  · exact h' rfl
  · exact h rfl
theorem Ret2.mono {α β : Type} {x : Option α} {x' : Option β} {P Q : α → β → Prop} (h : Ret2 x x' P) (hpq : ∀ y y', P y y' → Q y y') : Ret2 x x' Q := by
  obtain ⟨y, y', hy, hy', hp⟩ := h
  exact ⟨y, y', hy, hy', hpq y y' hp⟩
theorem Ret2.iter {D O D' O' : Type} {step : (D → Option O) → D → Option O} {step' : (D' → Option O') → D' → Option O'} (P : Nat → D → D' → Prop) (Q : O → O' → Prop)
    (h : ∀ r r' n d e, P n d e → (∀ m d' e', m < n → P m d' e' → Ret2 (r d') (r' e') Q) → Ret2 (step r d) (step' r' e) Q) : ∀ N n d e, P n d e → n < N → Ret2 (iter step N d) (iter step' N e) Q := by
  intro N
  induction N with
  | zero => intro n d e _ h0; omega
  | succ N ih =>
    intro n d e hp hn
    rw [iter_succ, iter_succ]
    exact h _ _ n d e hp fun m d' e' hm hp' => ih m d' e' hp' (by omega)

/-- Both come to the same value, which has the property. -/
def Same {α : Type} (x x' : Option α) (Q : α → Prop) : Prop := ∃ y, x = some y ∧ x' = some y ∧ Q y
theorem Same.of {α : Type} {x x' : Option α} {Q : α → Prop} (h : x = x') (hr : Ret x Q) : Same x x' Q := by
  obtain ⟨y, hy, hq⟩ := hr
  exact ⟨y, hy, h ▸ hy, hq⟩
theorem Same.ret {α : Type} {x x' : Option α} {Q : α → Prop} (h : Same x x' Q) : Ret x Q := by
  obtain ⟨y, hy, _, hq⟩ := h
  exact ⟨y, hy, hq⟩
theorem Same.eq {α : Type} {x x' : Option α} {Q : α → Prop} (h : Same x x' Q) : x = x' := by
  obtain ⟨y, hy, hy', hq⟩ := h
  rw [hy, hy']
theorem Same.two {α : Type} {x x' : Option α} {Q : α → Prop} (h : Same x x' Q) : Ret2 x x' fun y y' => y = y' ∧ Q y := by
  obtain ⟨y, hy, hy', hq⟩ := h
  exact ⟨y, y, hy, hy', rfl, hq⟩
theorem Ret2.same {α : Type} {x x' : Option α} {Q : α → Prop} (h : Ret2 x x' fun y y' => y = y' ∧ Q y) : Same x x' Q := by
  obtain ⟨y, _, hy, hy', rfl, hq⟩ := h
  exact ⟨y, hy, hy', hq⟩
theorem Same.pure {α : Type} {y : α} {Q : α → Prop} (h : Q y) : Same (some y) (some y) Q := ⟨y, rfl, rfl, h⟩

theorem opt_bind_assoc {α β γ : Type} (x : Option α) (f : α → Option β) (g : β → Option γ) : Option.bind (Option.bind x f) g = Option.bind x fun y => Option.bind (f y) g := by cases x <;> rfl
theorem opt_bind_cond {α β : Type} (c : Bool) (a b : Option α) (g : α → Option β) : Option.bind (bif c then a else b) g = bif c then Option.bind a g else Option.bind b g := by cases c <;> rfl
/-! ### conditions as propositions -/
theorem ilt_T (a b : Int) : (ilt a b = true) = (a < b) := by simp [ilt]
theorem ilt_F (a b : Int) : (ilt a b = false) = (b ≤ a) := by simp [ilt]
theorem ile_T (a b : Int) : (ile a b = true) = (a ≤ b) := by simp [ile]
theorem ile_F (a b : Int) : (ile a b = false) = (b < a) := by simp [ile]
theorem ieq_T (a b : Int) : (ieq a b = true) = (a = b) := by simp [ieq]
theorem ieq_F (a b : Int) : (ieq a b = false) = (a ≠ b) := by simp [ieq]
theorem bnot_T (b : Bool) : ((!b) = true) = (b = false) := by cases b <;> simp
theorem bnot_F (b : Bool) : ((!b) = false) = (b = true) := by cases b <;> simp
theorem ble_T (a b : Nat) : (Nat.ble a b = true) = (a ≤ b) := by simp
theorem ble_F (a b : Nat) : (Nat.ble a b = false) = (b < a) := by
  rw [eq_iff_iff]
  constructor
  · intro h
    rcases Nat.lt_or_ge b a with h' | h'
    · exact h'
    · rw [Nat.ble_eq_true_of_le h'] at h; cases h
  · intro h
    cases hb : Nat.ble a b
    · rfl
    · exact absurd (Nat.le_of_ble_eq_true hb) (by omega)
theorem nz_T (a : Int) : (nz a = true) = (a ≠ 0) := by simp [nz]
theorem nz_F (a : Int) : (nz a = false) = (a = 0) := by simp [nz]
theorem nonneg_T (a : Int) : (nonneg a = true) = (0 ≤ a) := by simp [nonneg]
theorem nonneg_F (a : Int) : (nonneg a = false) = (a < 0) := by simp [nonneg]

theorem ieq_comm (a b : Int) : ieq a b = ieq b a := by
  by_cases h : a = b
  · rw [h]
  · rw [ieq_f h, ieq_f (fun e => h e.symm)]
/-! ### loops that look at one element after another -/
def allFrom (g : Nat → Bool) : Nat → Nat → Bool
  | _, 0 => true
  | i, k + 1 => bif g i then allFrom g (i + 1) k else false
theorem allFrom_T {g : Nat → Bool} : ∀ {k i : Nat}, allFrom g i k = true → ∀ j, i ≤ j → j < i + k → g j = true
  | 0, i, _, j, h1, h2 => by omega
  | k + 1, i, h, j, h1, h2 => by
    unfold allFrom at h
    cases hg : g i
    · rw [hg] at h; cases h
    · rw [hg] at h
      by_cases e : j = i
      · rw [e]; exact hg
      · exact allFrom_T (k := k) (i := i + 1) h j (by omega) (by omega)
theorem allFrom_of {g : Nat → Bool} : ∀ {k i : Nat}, (∀ j, i ≤ j → j < i + k → g j = true) → allFrom g i k = true
  | 0, i, _ => rfl
  | k + 1, i, h => by
    unfold allFrom
    rw [h i (Nat.le_refl _) (by omega), cond_t]
    exact allFrom_of fun j h1 h2 => h j (by omega) (by omega)
theorem all_loop' {D O : Type} {step : (D → Option O) → D → Option O} (d : Nat → D) (good : O) (bad : Nat → O) (g : Nat → Bool) (n : Nat)
    (h1 : ∀ i, i < n → ∀ r, step r (d i) = bif g i then r (d (i + 1)) else some (bad i)) (h2 : ∀ r, step r (d n) = some good) :
    ∀ (k i N : Nat), i + k = n → k < N → ∃ o, iter step N (d i) = some o ∧ (allFrom g i k = true → o = good) ∧ (allFrom g i k = false → ∃ j, i ≤ j ∧ j < n ∧ g j = false ∧ o = bad j)
  | 0, i, N + 1, hi, hN => ⟨good, by rw [iter_succ, show i = n by omega]; exact h2 _, fun _ => rfl, nofun⟩
  | k + 1, i, N + 1, hi, hN => by
    rw [iter_succ, h1 i (by omega)]
    unfold allFrom
    cases hg : g i
    · exact ⟨bad i, rfl, nofun, fun _ => ⟨i, Nat.le_refl _, by omega, hg, rfl⟩⟩
    · obtain ⟨o, ho, h3, h4⟩ := all_loop' d good bad g n h1 h2 k (i + 1) N (by omega) (by omega)
      refine ⟨o, ho, h3, fun h => ?_⟩
      obtain ⟨j, h5, h6, h7, h8⟩ := h4 h
      exact ⟨j, by omega, h6, h7, h8⟩
theorem all_loop {D O : Type} {step : (D → Option O) → D → Option O} (d : Nat → D) (good bad : O) (g : Nat → Bool) (n : Nat)
    (h1 : ∀ i, i < n → ∀ r, step r (d i) = bif g i then r (d (i + 1)) else some bad) (h2 : ∀ r, step r (d n) = some good) (hn : n < 4611686018427387904) : iter step fuel (d 0) = some (bif allFrom g 0 n then good else bad) := by
  obtain ⟨o, ho, h3, h4⟩ := all_loop' d good (fun _ => bad) g n h1 h2 n 0 fuel (by omega) (by unfold fuel; omega)
  rw [ho]
  cases hg : allFrom g 0 n
  · obtain ⟨j, _, _, _, e⟩ := h4 hg; rw [e]; rfl
  · rw [h3 hg]; rfl
theorem bif_not {α : Type} (b : Bool) (x y : α) : (bif !b then x else y) = bif b then y else x := by cases b <;> rfl
theorem nat_int_toNat (i : Nat) : ((i : Int)).toNat = i := Int.toNat_natCast i
theorem ix_nat {i n : Nat} (h : i < n) : ix (i : Int) n = some i := by rw [ix_ok (by omega) (by omega), nat_int_toNat]
theorem ilt_nat {i n : Nat} (h : i < n) : ilt (i : Int) (n : Int) = true := ilt_t (by omega)
theorem ilt_self (n : Int) : ilt n n = false := ilt_f (Int.le_refl _)
theorem iadd_nat {i : Nat} (h : i < 4611686018427387904) : iadd .i64 (i : Int) 1 = ((i + 1 : Nat) : Int) := by rw [iadd_ok (by omega) (by omega)]; omega
theorem allFrom_eq {g g' : Nat → Bool} {i k : Nat} (h : (∀ j, i ≤ j → j < i + k → g j = true) ↔ ∀ j, i ≤ j → j < i + k → g' j = true) : allFrom g i k = allFrom g' i k := by
  rw [Bool.eq_iff_iff]
  exact ⟨fun h1 => allFrom_of (h.1 (allFrom_T h1)), fun h1 => allFrom_of (h.2 (allFrom_T h1))⟩
theorem bif_T (c a b : Bool) : ((bif c then a else b) = true) = ((c = true ∧ a = true) ∨ (c = false ∧ b = true)) := by cases c <;> simp
theorem bif_F (c a b : Bool) : ((bif c then a else b) = false) = ((c = true ∧ a = false) ∨ (c = false ∧ b = false)) := by cases c <;> simp
theorem map_getD {α β : Type} (f : α → β) (l : List α) (j : Nat) (z : α) (y : β) (h : j < l.length) : (l.map f).getD j y = f (l.getD j z) := by
  simp [List.getD_eq_getElem?_getD, h]
/-- A loop that makes a list, element by element. -/
theorem map_loop {α β D O : Type} {step : (D → Option O) → D → Option O} (d : Nat → List β → D) (out : List β → O) (f : α → β) (l : List α)
    (h1 : ∀ pre x suf r acc, l = pre ++ x :: suf → acc.length = pre.length → step r (d pre.length acc) = r (d (pre.length + 1) (acc ++ [f x])))
    (h2 : ∀ r acc, step r (d l.length acc) = some (out acc)) (hl : l.length < 4611686018427387904) : iter step fuel (d 0 []) = some (out (l.map f)) := by
  have key : ∀ (suf pre : List α) (N : Nat), l = pre ++ suf → suf.length < N → iter step N (d pre.length (pre.map f)) = some (out (l.map f)) := by
    intro suf
    induction suf with
    | nil =>
      intro pre N he hN
      obtain _ | N := N
      · omega
      rw [List.append_nil] at he
      rw [iter_succ, ← he, h2]
    | cons x suf ih =>
      intro pre N he hN
      obtain _ | N := N
      · omega
      rw [iter_succ, h1 pre x suf _ _ he (List.length_map ..)]
      have := ih (pre ++ [x]) N (by rw [he]; simp) (by simp at hN; omega)
      rwa [List.length_append, List.map_append] at this
  exact key l [] fuel rfl (by unfold fuel; omega)

/-- Whether one of them has it. -/
theorem contains_of {D : Type} {step : (D → Option (Bool × ((Int × Unit) × Unit))) → D → Option (Bool × ((Int × Unit) × Unit))} (d : Nat → D) (t : Int) (g : Nat → Bool) (n : Nat)
    (h1 : ∀ i, i < n → ∀ r, step r (d i) = bif g i then r (d (i + 1)) else some (true, (((i : Int), ()), ()))) (h2 : ∀ r, step r (d n) = some (false, ((t, ()), ()))) (hn : n < 4611686018427387904) :
    (Option.bind (iter step fuel (d 0)) fun y => bif y.1 then some (ile 0 y.2.1.1) else some (ile 0 (-1))) = some (!(allFrom g 0 n)) := by
  obtain ⟨o, ho, h3, h4⟩ := all_loop' d _ (fun i : Nat => (true, (((i : Int), ()), ()))) g n h1 h2 n 0 fuel (by omega) (by unfold fuel; omega)
  rw [ho, opt_bind_some]
  cases hg : allFrom g 0 n
  · obtain ⟨j, _, _, _, e⟩ := h4 hg
    rw [e]
    show some (ile 0 (j : Int)) = _
    rw [ile_t (by omega)]; rfl
  · rw [h3 hg]; rfl

end Go.Fw
