/- The abstract interpreter, its soundness, and plain facts: part 5. No condition. -/
import Derived.Test.YtcbpdhhipkdofaaFwD
/- Floating point numbers: the order turned round; how great a result can be; what can be narrowed. No condition. -/
namespace Go.Fw
open Ieee

/-! ### how great a number can be -/
/-- Canonical words. -/
def okF (k : FloatKind) (x : Nat) : Prop := x < 2 ^ k.format.width ∧ canon k x = x
theorem okF.lt {k : FloatKind} {x : Nat} (h : okF k x) : x < 2 ^ k.format.width := h.1
theorem okF.canon {k : FloatKind} {x : Nat} (h : okF k x) : Fw.canon k x = x := h.2
theorem okF.nan {k : FloatKind} {x : Nat} (h : okF k x) (hn : isNan k x = true) : x = qnan k := by rw [← h.canon, canon_nan hn]
theorem okF.of_num {k : FloatKind} {x : Nat} (h : x < 2 ^ k.format.width) (hn : isNan k x = false) : okF k x := ⟨h, canon_num hn⟩
end Go.Fw
/- Floating point numbers: what is widened and narrowed again is the same. No condition. -/
namespace Go.Fw
open Ieee

end Go.Fw
/- Plain facts for printed texts: what an optional value comes to; loops with invariants; conditions as propositions. No condition. -/
namespace Go.Fw

/-- It comes to a value with the property. -/
def Ret {α : Type} (x : Option α) (Q : α → Prop) : Prop := ∃ y, x = some y ∧ Q y

theorem Ret.pure {α : Type} {y : α} {Q : α → Prop} (h : Q y) : Ret (some y) Q := ⟨y, rfl, h⟩
theorem Ret.bind {α β : Type} {x : Option α} {f : α → Option β} {Q : β → Prop} (h : Ret x fun y => Ret (f y) Q) : Ret (Option.bind x f) Q := by
  obtain ⟨y, rfl, z, hz, hq⟩ := h
  exact ⟨z, hz, hq⟩
theorem Ret.cond {α : Type} {c : Bool} {a b : Option α} {Q : α → Prop} (h : c = true → Ret a Q) (h' : c = false → Ret b Q) : Ret (bif c then a else b) Q := by
  cases c
  · exact h' rfl
  · exact h rfl
theorem Ret.ix {α : Type} {i : Int} {n : Nat} {f : Nat → Option α} {Q : α → Prop} (h0 : 0 ≤ i) (h1 : i < n) (h : Ret (f i.toNat) Q) : Ret (Option.bind (ix i n) f) Q := by
  rw [ix_ok h0 h1]; exact h
theorem Ret.mono {α : Type} {x : Option α} {P Q : α → Prop} (h : Ret x P) (hpq : ∀ y, P y → Q y) : Ret x Q := by
  obtain ⟨y, hy, hp⟩ := h
  exact ⟨y, hy, hpq y hp⟩
theorem Ret.iter {D O : Type} {step : (D → Option O) → D → Option O} (P : Nat → D → Prop) (Q : O → Prop)
    (h : ∀ r n d, P n d → (∀ m d', m < n → P m d' → Ret (r d') Q) → Ret (step r d) Q) : ∀ N n d, P n d → n < N → Ret (iter step N d) Q := by
  intro N
  induction N with
  | zero => intro n d _ h0; omega
  | succ N ih =>
    intro n d hp hn
    rw [iter_succ]
    exact h _ n d hp fun m d' hm hp' => ih m d' hp' (by omega)

/-- Both come to values that belong together. -/
def Ret2 {α β : Type} (x : Option α) (x' : Option β) (Q : α → β → Prop) : Prop := ∃ y y', x = some y ∧ x' = some y' ∧ Q y y'

theorem Ret2.pure {α β : Type} {y : α} {y' : β} {Q : α → β → Prop} (h : Q y y') : Ret2 (some y) (some y') Q := ⟨y, y', rfl, rfl, h⟩
theorem Ret2.cond {α β : Type} {c c' : Bool} {a b : Option α} {a' b' : Option β} {Q : α → β → Prop} (hc : c = c') (h : c = true → Ret2 a a' Q) (h' : c = false → Ret2 b b' Q) : Ret2 (bif c then a else b) (bif c' then a' else b') Q := by
  subst hc
  cases c
  · exact h' rfl
  · exact h rfl
theorem Ret2.mono {α β : Type} {x : Option α} {x' : Option β} {P Q : α → β → Prop} (h : Ret2 x x' P) (hpq : ∀ y y', P y y' → Q y y') : Ret2 x x' Q := by
  obtain ⟨y, y', hy, hy', hp⟩ := h
  exact ⟨y, y', hy, hy', hpq y y' hp⟩
theorem Ret2.iter {D O D' O' : Type} {step : (D → Option O) → D → Option O} {step' : (D' → Option O') → D' → Option O'} (P : Nat → D → D' → Prop) (Q : O → O' → Prop)
    (h : ∀ r r' n d e, P n d e → (∀ m d' e', m < n → P m d' e' → Ret2 (r d') (r' e') Q) → Ret2 (step r d) (step' r' e) Q) : ∀ N n d e, P n d e → n < N → Ret2 (iter step N d) (iter step' N e) Q := by
  intro N
  induction N with
  | zero => intro n d e _ h0; omega
  | succ N ih =>
    intro n d e hp hn
    rw [iter_succ, iter_succ]
    exact h _ _ n d e hp fun m d' e' hm hp' => ih m d' e' hp' (by omega)

/-- Both come to the same value, which has the property. -/
def Same {α : Type} (x x' : Option α) (Q : α → Prop) : Prop := ∃ y, x = some y ∧ x' = some y ∧ Q y
theorem Same.of {α : Type} {x x' : Option α} {Q : α → Prop} (h : x = x') (hr : Ret x Q) : Same x x' Q := by
  obtain ⟨y, hy, hq⟩ := hr
  exact ⟨y, hy, h ▸ hy, hq⟩
theorem Same.ret {α : Type} {x x' : Option α} {Q : α → Prop} (h : Same x x' Q) : Ret x Q := by
  obtain ⟨y, hy, _, hq⟩ := h
  exact ⟨y, hy, hq⟩
theorem Same.eq {α : Type} {x x' : Option α} {Q : α → Prop} (h : Same x x' Q) : x = x' := by
  obtain ⟨y, hy, hy', hq⟩ := h
  rw [hy, hy']
theorem Same.two {α : Type} {x x' : Option α} {Q : α → Prop} (h : Same x x' Q) : Ret2 x x' fun y y' => y = y' ∧ Q y := by
  obtain ⟨y, hy, hy', hq⟩ := h
  exact ⟨y, y, hy, hy', rfl, hq⟩
theorem Ret2.same {α : Type} {x x' : Option α} {Q : α → Prop} (h : Ret2 x x' fun y y' => y = y' ∧ Q y) : Same x x' Q := by
  obtain ⟨y, _, hy, hy', rfl, hq⟩ := h
  exact ⟨y, hy, hy', hq⟩
theorem Same.pure {α : Type} {y : α} {Q : α → Prop} (h : Q y) : Same (some y) (some y) Q := ⟨y, rfl, rfl, h⟩

/-! ### conditions as propositions -/
/-! ### loops that look at one element after another -/
theorem nat_int_toNat (i : Nat) : ((i : Int)).toNat = i := Int.toNat_natCast i
theorem ilt_nat {i n : Nat} (h : i < n) : ilt (i : Int) (n : Int) = true := ilt_t (by omega)
theorem ilt_self (n : Int) : ilt n n = false := ilt_f (Int.le_refl _)
theorem iadd_nat {i : Nat} (h : i < 4611686018427387904) : iadd .i64 (i : Int) 1 = ((i + 1 : Nat) : Int) := by rw [iadd_ok (by omega) (by omega)]; omega
end Go.Fw
