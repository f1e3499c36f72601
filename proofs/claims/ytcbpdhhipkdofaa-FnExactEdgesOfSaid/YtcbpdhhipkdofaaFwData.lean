/- Typed data, and what it means that Go values and a heap hold typed data: read alone, or owned. No condition. -/
import Derived.Test.YtcbpdhhipkdofaaFwFloat
namespace Go.Fw

inductive Ty where
  | int (k : IntKind) | bool | flt (k : FloatKind) | str | unit
  | pair (a b : Ty) | slice (e : Ty) | rslice (e : Ty)
  | ref (e : Ty) | fn (f : Nat)
  deriving DecidableEq

@[reducible] def Ty.D : Ty → Type
  | .int _ => Int
  | .bool => Bool
  | .flt _ => Nat
  | .str => ByteArray
  | .unit => Unit
  | .pair a b => a.D × b.D
  | .slice e => List e.D
  | .rslice e => List e.D
  | .ref e => e.D
  | .fn _ => Unit

def Ty.size : Ty → Nat
  | .unit => 0
  | .pair a b => a.size + b.size
  | _ => 1

def Ty.zero : (τ : Ty) → τ.D
  | .int _ => (0 : Int)
  | .bool => false
  | .flt _ => (0 : Nat)
  | .str => ByteArray.empty
  | .unit => ()
  | .pair a b => (a.zero, b.zero)
  | .slice _ => []
  | .rslice _ => []
  | .ref e => e.zero
  | .fn _ => ()

def inR (k : IntKind) (n : Int) : Prop := k.min ≤ n ∧ n ≤ k.max

/-- What all data that a program can hold fulfil. -/
def Ty.ok : (τ : Ty) → τ.D → Prop
  | .int k, n => inR k n
  | .bool, _ => True
  | .flt k, x => x < 2 ^ k.format.width ∧ canon k x = x
  | .str, s => s.size ≤ maxLen
  | .unit, _ => True
  | .pair a b, x => a.ok x.1 ∧ b.ok x.2
  | .slice e, xs => List.length (α := e.D) xs ≤ maxLen ∧ ∀ x, List.Mem (α := e.D) x xs → e.ok x
  | .rslice e, xs => List.length (α := e.D) xs ≤ maxLen ∧ ∀ x, List.Mem (α := e.D) x xs → e.ok x
  | .ref e, x => e.ok x
  | .fn _, _ => True

def win (cs : Array Value) (off n : Nat) : List Value := (cs.toList.drop off).take n

abbrev Heap := Array Obj

/-- A slice that is read alone: its cells lie in a block of S. 'R' tells of an element. -/
def RepSl (h : Heap) (S : Nat → Prop) (sz : Nat) {α : Type} (R : α → List Value → Prop) (xs : List α) (cs : List Value) : Prop :=
  xs.length ≤ maxLen ∧ ∃ base cap, cs = [.slice base xs.length cap] ∧ xs.length ≤ cap ∧ cap ≤ maxLen ∧
    (xs = [] ∨ ∃ c off arr te fz, base = some ⟨c, off, none⟩ ∧ S c ∧ h[c]? = some (.cells arr te fz) ∧ off + xs.length * sz ≤ arr.size ∧
      ∀ i x, xs[i]? = some x → R x (win arr (off + i * sz) sz))

/-- A pointer to cells that are read alone. -/
def RepRef (h : Heap) (S : Nat → Prop) (sz : Nat) (R : List Value → Prop) (cs : List Value) : Prop :=
  ∃ c o arr te fz, cs = [.pointer (some ⟨c, o, none⟩)] ∧ S c ∧ h[c]? = some (.cells arr te fz) ∧ o + sz ≤ arr.size ∧ R (win arr o sz)

/-- The cells stand for the data; all slices are read alone. -/
def Rep (h : Heap) (S : Nat → Prop) : (τ : Ty) → τ.D → List Value → Prop
  | .int k, n, cs => cs = [.int k n] ∧ inR k n
  | .bool, b, cs => cs = [.bool b]
  | .flt k, x, cs => ∃ b, cs = [.float k b] ∧ FRel k x b
  | .str, s, cs => cs = [.string s] ∧ s.size ≤ maxLen
  | .unit, _, cs => cs = []
  | .pair a b, x, cs => ∃ c1 c2, cs = c1 ++ c2 ∧ Rep h S a x.1 c1 ∧ Rep h S b x.2 c2
  | .slice e, xs, cs => RepSl h S e.size (Rep h S e) xs cs
  | .rslice e, xs, cs => RepSl h S e.size (Rep h S e) xs cs
  | .ref e, x, cs => RepRef h S e.size (Rep h S e x) cs
  | .fn f, _, cs => cs = [.func (.func f) #[] #[]]

/-- A slice that is owned: it begins its block, which lies in F, as do the blocks of its elements, each apart. -/
def OwnSl (h : Heap) (sz : Nat) {α : Type} (R : α → List Value → (Nat → Prop) → Prop) (xs : List α) (cs : List Value) (F : Nat → Prop) : Prop :=
  xs.length ≤ maxLen ∧ ∃ base cap, cs = [.slice base xs.length cap] ∧ xs.length ≤ cap ∧ cap ≤ maxLen ∧
    (cap = 0 ∨ ∃ c arr te, base = some ⟨c, 0, none⟩ ∧ F c ∧ h[c]? = some (.cells arr te (0, 0)) ∧ arr.size = cap * sz ∧
      ∃ G : Nat → Nat → Prop, (∀ i j b, G i b → G j b → i = j) ∧ (∀ i b, G i b → F b ∧ b ≠ c) ∧
        ∀ i x, xs[i]? = some x → R x (win arr (i * sz) sz) (G i))

def Own (h : Heap) (S : Nat → Prop) : (τ : Ty) → τ.D → List Value → (Nat → Prop) → Prop
  | .int k, n, cs, _ => cs = [.int k n] ∧ inR k n
  | .bool, b, cs, _ => cs = [.bool b]
  | .flt k, x, cs, _ => ∃ b, cs = [.float k b] ∧ FRel k x b
  | .str, s, cs, _ => cs = [.string s] ∧ s.size ≤ maxLen
  | .unit, _, cs, _ => cs = []
  | .pair a b, x, cs, F => ∃ c1 c2 F1 F2, cs = c1 ++ c2 ∧ Own h S a x.1 c1 F1 ∧ Own h S b x.2 c2 F2 ∧ (∀ c, F1 c → F c) ∧ (∀ c, F2 c → F c) ∧ ∀ c, F1 c → ¬ F2 c
  | .slice e, xs, cs, F => OwnSl h e.size (Own h S e) xs cs F
  | .rslice e, xs, cs, _ => RepSl h S e.size (Rep h S e) xs cs
  | .ref e, x, cs, _ => RepRef h S e.size (Rep h S e x) cs
  | .fn f, _, cs, _ => cs = [.func (.func f) #[] #[]]

theorem win_length {cs : Array Value} {off n : Nat} (h : off + n ≤ cs.size) : (win cs off n).length = n := by
  simp [win]; omega

theorem Rep.length {h : Heap} {S : Nat → Prop} : (τ : Ty) → (x : τ.D) → (cs : List Value) → Rep h S τ x cs → cs.length = τ.size
  | .int k, n, cs, r => by simp [Rep] at r; simp [r.1, Ty.size]
  | .bool, b, cs, r => by simp [Rep] at r; simp [r, Ty.size]
  | .flt k, x, cs, r => by obtain ⟨b, rfl, _⟩ := r; rfl
  | .str, s, cs, r => by simp [Rep] at r; simp [r.1, Ty.size]
  | .unit, _, cs, r => by simp [Rep] at r; simp [r, Ty.size]
  | .pair a b, x, cs, r => by
    obtain ⟨c1, c2, rfl, r1, r2⟩ := r
    simp [Ty.size, Rep.length a _ _ r1, Rep.length b _ _ r2]
  | .slice e, xs, cs, r => by obtain ⟨_, base, cap, rfl, _⟩ := r; rfl
  | .rslice e, xs, cs, r => by obtain ⟨_, base, cap, rfl, _⟩ := r; rfl
  | .ref e, x, cs, r => by obtain ⟨_, _, _, _, _, rfl, _⟩ := r; rfl
  | .fn f, _, cs, r => by have e : cs = _ := r; rw [e]; rfl

theorem Own.length {h : Heap} {S : Nat → Prop} : (τ : Ty) → (x : τ.D) → (cs : List Value) → (F : Nat → Prop) → Own h S τ x cs F → cs.length = τ.size
  | .int k, n, cs, _, r => by simp [Own] at r; simp [r.1, Ty.size]
  | .bool, b, cs, _, r => by simp [Own] at r; simp [r, Ty.size]
  | .flt k, x, cs, _, r => by obtain ⟨b, rfl, _⟩ := r; rfl
  | .str, s, cs, _, r => by simp [Own] at r; simp [r.1, Ty.size]
  | .unit, _, cs, _, r => by simp [Own] at r; simp [r, Ty.size]
  | .pair a b, x, cs, F, r => by
    obtain ⟨c1, c2, F1, F2, rfl, r1, r2, _⟩ := r
    simp [Ty.size, Own.length a _ _ _ r1, Own.length b _ _ _ r2]
  | .slice e, xs, cs, _, r => by obtain ⟨_, base, cap, rfl, _⟩ := r; rfl
  | .rslice e, xs, cs, _, r => by obtain ⟨_, base, cap, rfl, _⟩ := r; rfl
  | .ref e, x, cs, _, r => by obtain ⟨_, _, _, _, _, rfl, _⟩ := r; rfl
  | .fn f, _, cs, _, r => by have e : cs = _ := r; rw [e]; rfl

/-- What is read stays where the blocks of S stay. -/
theorem Rep.mono {h h' : Heap} {S S' : Nat → Prop} (hS : ∀ c, S c → S' c) (hh : ∀ c, S c → h'[c]? = h[c]?) : (τ : Ty) → (x : τ.D) → (cs : List Value) → Rep h S τ x cs → Rep h' S' τ x cs
  | .int _, _, _, r => r
  | .bool, _, _, r => r
  | .flt _, _, _, r => r
  | .str, _, _, r => r
  | .unit, _, _, r => r
  | .pair a b, x, cs, r => by
    obtain ⟨c1, c2, rfl, r1, r2⟩ := r
    exact ⟨c1, c2, rfl, Rep.mono hS hh a _ _ r1, Rep.mono hS hh b _ _ r2⟩
  | .slice e, xs, cs, r => by
    obtain ⟨hl, base, cap, rfl, h1, h2, h3⟩ := r
    refine ⟨hl, base, cap, rfl, h1, h2, h3.imp id ?_⟩
    rintro ⟨c, off, arr, te, fz, rfl, hs, hg, hb, hx⟩
    exact ⟨c, off, arr, te, fz, rfl, hS c hs, (hh c hs).trans hg, hb, fun i x hi => Rep.mono hS hh e _ _ (hx i x hi)⟩
  | .rslice e, xs, cs, r => by
    obtain ⟨hl, base, cap, rfl, h1, h2, h3⟩ := r
    refine ⟨hl, base, cap, rfl, h1, h2, h3.imp id ?_⟩
    rintro ⟨c, off, arr, te, fz, rfl, hs, hg, hb, hx⟩
    exact ⟨c, off, arr, te, fz, rfl, hS c hs, (hh c hs).trans hg, hb, fun i x hi => Rep.mono hS hh e _ _ (hx i x hi)⟩
  | .ref e, x, cs, r => by
    obtain ⟨c, o, arr, te, fz, rfl, hs, hg, hb, hr⟩ := r
    exact ⟨c, o, arr, te, fz, rfl, hS c hs, (hh c hs).trans hg, hb, Rep.mono hS hh e _ _ hr⟩
  | .fn _, _, _, r => r

/-- What is owned stays where the blocks of F and S stay; F may become wider. -/
theorem Own.mono {h h' : Heap} {S S' : Nat → Prop} (hS : ∀ c, S c → S' c) (hh : ∀ c, S c → h'[c]? = h[c]?) : (τ : Ty) → (x : τ.D) → (cs : List Value) → (F F' : Nat → Prop) →
    (∀ c, F c → F' c) → (∀ c, F c → h'[c]? = h[c]?) → Own h S τ x cs F → Own h' S' τ x cs F'
  | .int _, _, _, _, _, _, _, r => r
  | .bool, _, _, _, _, _, _, r => r
  | .flt _, _, _, _, _, _, _, r => r
  | .str, _, _, _, _, _, _, r => r
  | .unit, _, _, _, _, _, _, r => r
  | .pair a b, x, cs, F, F', hF, hf, r => by
    obtain ⟨c1, c2, F1, F2, rfl, r1, r2, s1, s2, d⟩ := r
    exact ⟨c1, c2, F1, F2, rfl, Own.mono hS hh a _ _ F1 F1 (fun _ h => h) (fun c hc => hf c (s1 c hc)) r1, Own.mono hS hh b _ _ F2 F2 (fun _ h => h) (fun c hc => hf c (s2 c hc)) r2,
      fun c hc => hF c (s1 c hc), fun c hc => hF c (s2 c hc), d⟩
  | .slice e, xs, cs, F, F', hF, hf, r => by
    obtain ⟨hl, base, cap, rfl, h1, h2, h3⟩ := r
    refine ⟨hl, base, cap, rfl, h1, h2, h3.imp id ?_⟩
    rintro ⟨c, arr, te, rfl, hs, hg, hb, G, g1, g2, hx⟩
    exact ⟨c, arr, te, rfl, hF c hs, (hf c hs).trans hg, hb, G, g1, fun i b hb => ⟨hF b (g2 i b hb).1, (g2 i b hb).2⟩,
      fun i x hi => Own.mono hS hh e _ _ (G i) (G i) (fun _ h => h) (fun c hc => hf c (g2 i c hc).1) (hx i x hi)⟩
  | .rslice e, xs, cs, F, F', hF, hf, r => Rep.mono (h := h) hS hh (.rslice e) xs cs r
  | .ref e, x, cs, F, F', hF, hf, r => Rep.mono (h := h) hS hh (.ref e) x cs r
  | .fn _, _, _, _, _, _, _, r => r

/-- What is owned can be read. -/
theorem Own.rep {h : Heap} {S : Nat → Prop} : (τ : Ty) → (x : τ.D) → (cs : List Value) → (F T : Nat → Prop) → (∀ c, F c → T c) → (∀ c, S c → T c) → Own h S τ x cs F → Rep h T τ x cs
  | .int _, _, _, _, _, _, _, r => r
  | .bool, _, _, _, _, _, _, r => r
  | .flt _, _, _, _, _, _, _, r => r
  | .str, _, _, _, _, _, _, r => r
  | .unit, _, _, _, _, _, _, r => r
  | .pair a b, x, cs, F, T, hF, hS, r => by
    obtain ⟨c1, c2, F1, F2, rfl, r1, r2, s1, s2, d⟩ := r
    exact ⟨c1, c2, rfl, Own.rep a _ _ F1 T (fun c hc => hF c (s1 c hc)) hS r1, Own.rep b _ _ F2 T (fun c hc => hF c (s2 c hc)) hS r2⟩
  | .slice e, xs, cs, F, T, hF, hS, r => by
    obtain ⟨hl, base, cap, rfl, h1, h2, h3⟩ := r
    refine ⟨hl, base, cap, rfl, h1, h2, ?_⟩
    rcases h3 with h3 | ⟨c, arr, te, rfl, hs, hg, hb, G, g1, g2, hx⟩
    · exact .inl (List.eq_nil_of_length_eq_zero (by omega))
    · refine .inr ⟨c, 0, arr, te, (0, 0), rfl, hF c hs, hg, ?_, fun i x hi => ?_⟩
      · rw [hb, Nat.zero_add]; exact Nat.mul_le_mul_right _ h1
      · rw [Nat.zero_add]
        exact Own.rep e _ _ (G i) T (fun c hc => hF c (g2 i c hc).1) hS (hx i x hi)
  | .rslice e, xs, cs, F, T, hF, hS, r => Rep.mono (h := h) hS (fun _ _ => rfl) (.rslice e) xs cs r
  | .ref e, x, cs, F, T, hF, hS, r => Rep.mono (h := h) hS (fun _ _ => rfl) (.ref e) x cs r
  | .fn _, _, _, _, _, _, _, r => r

theorem FRel.ok {k : FloatKind} {x b : Nat} (h : FRel k x b) : x < 2 ^ k.format.width ∧ Fw.canon k x = x := by
  refine ⟨?_, h.canon⟩
  cases hn : Fw.isNan k x
  · rw [← h.eq hn]; exact h.1
  · rw [← h.canon, canon_nan hn]; exact qnan_lt k

theorem Rep.ok {h : Heap} {S : Nat → Prop} : (τ : Ty) → (x : τ.D) → (cs : List Value) → Rep h S τ x cs → τ.ok x
  | .int _, _, _, r => r.2
  | .bool, _, _, _ => trivial
  | .flt _, _, _, r => by obtain ⟨b, _, r⟩ := r; exact r.ok
  | .str, _, _, r => r.2
  | .unit, _, _, _ => trivial
  | .pair a b, x, cs, r => by
    obtain ⟨c1, c2, rfl, r1, r2⟩ := r
    exact ⟨Rep.ok a _ _ r1, Rep.ok b _ _ r2⟩
  | .slice e, xs, cs, r => by
    obtain ⟨hl, base, cap, rfl, h1, h2, h3⟩ := r
    refine ⟨hl, fun x hx => ?_⟩
    rcases h3 with rfl | ⟨c, off, arr, te, fz, rfl, hs, hg, hb, hr⟩
    · cases hx
    · obtain ⟨i, hi⟩ := List.getElem?_of_mem (show x ∈ xs from hx)
      exact Rep.ok e _ _ (hr i x hi)
  | .rslice e, xs, cs, r => by
    obtain ⟨hl, base, cap, rfl, h1, h2, h3⟩ := r
    refine ⟨hl, fun x hx => ?_⟩
    rcases h3 with rfl | ⟨c, off, arr, te, fz, rfl, hs, hg, hb, hr⟩
    · cases hx
    · obtain ⟨i, hi⟩ := List.getElem?_of_mem (show x ∈ xs from hx)
      exact Rep.ok e _ _ (hr i x hi)
  | .ref e, x, cs, r => by
    obtain ⟨c, o, arr, te, fz, rfl, hs, hg, hb, hr⟩ := r
    exact Rep.ok e _ _ hr
  | .fn _, _, _, _ => trivial

theorem Own.ok {h : Heap} {S : Nat → Prop} (τ : Ty) (x : τ.D) (cs : List Value) (F : Nat → Prop) (r : Own h S τ x cs F) : τ.ok x :=
  Rep.ok τ x cs (Own.rep τ x cs F (fun c => F c ∨ S c) (fun _ h => .inl h) (fun _ h => .inr h) r)

end Go.Fw
