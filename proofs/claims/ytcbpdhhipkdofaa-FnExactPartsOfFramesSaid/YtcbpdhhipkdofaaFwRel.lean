/- The relation between the abstract interpreter's states and the machine's, and that it is kept where little changes. No condition. -/
import Derived.Test.YtcbpdhhipkdofaaFwExec
namespace Go.Fw

inductive All2 {α β : Type} (R : α → β → Prop) : List α → List β → Prop
  | nil : All2 R [] []
  | cons {a b l m} : R a b → All2 R l m → All2 R (a :: l) (b :: m)

theorem All2.length {α β : Type} {R : α → β → Prop} {l : List α} {m : List β} (h : All2 R l m) : l.length = m.length := by
  induction h with
  | nil => rfl
  | cons _ _ ih => simp [ih]

theorem All2.imp {α β : Type} {R R' : α → β → Prop} {l : List α} {m : List β} (hi : ∀ a b, R a b → R' a b) (h : All2 R l m) : All2 R' l m := by
  induction h with
  | nil => exact .nil
  | cons h _ ih => exact .cons (hi _ _ h) ih

theorem All2.get {α β : Type} {R : α → β → Prop} {l : List α} {m : List β} (h : All2 R l m) : ∀ (i : Nat) (a : α), l[i]? = some a → ∃ b, m[i]? = some b ∧ R a b := by
  induction h with
  | nil => intro i a hi; simp at hi
  | cons h _ ih =>
    intro i a hi
    cases i with
    | zero => simp at hi; subst hi; exact ⟨_, rfl, h⟩
    | succ i => simpa using ih i a (by simpa using hi)

theorem All2.append {α β : Type} {R : α → β → Prop} {l l' : List α} {m m' : List β} (h : All2 R l m) (h' : All2 R l' m') : All2 R (l ++ l') (m ++ m') := by
  induction h with
  | nil => exact h'
  | cons h _ ih => exact .cons h ih

theorem All2.take {α β : Type} {R : α → β → Prop} {l : List α} {m : List β} (h : All2 R l m) : ∀ n, All2 R (l.take n) (m.take n) := by
  induction h with
  | nil => intro n; simp; exact .nil
  | cons h _ ih =>
    intro n
    cases n with
    | zero => exact .nil
    | succ n => exact .cons h (ih n)

theorem All2.drop {α β : Type} {R : α → β → Prop} {l : List α} {m : List β} (h : All2 R l m) : ∀ n, All2 R (l.drop n) (m.drop n) := by
  induction h with
  | nil => intro n; simp; exact .nil
  | cons h t ih =>
    intro n
    cases n with
    | zero => exact .cons h t
    | succ n => exact ih n

theorem All2.map_left {α β γ : Type} {R : α → β → Prop} {R' : γ → β → Prop} {f : α → γ} {l : List α} {m : List β} (hi : ∀ a b, R a b → R' (f a) b) (h : All2 R l m) : All2 R' (l.map f) m := by
  induction h with
  | nil => exact .nil
  | cons h _ ih => exact .cons (hi _ _ h) ih

theorem All2.split {α β : Type} {R : α → β → Prop} : ∀ {l l' : List α} {m : List β}, All2 R (l ++ l') m → ∃ m1 m2, m = m1 ++ m2 ∧ All2 R l m1 ∧ All2 R l' m2
  | [], _, m, h => ⟨[], m, rfl, .nil, h⟩
  | _ :: _, _, _, .cons h t => by
    obtain ⟨m1, m2, rfl, h1, h2⟩ := All2.split t
    exact ⟨_ :: m1, m2, rfl, .cons h h1, h2⟩

theorem All2.set {α β : Type} {R : α → β → Prop} {l : List α} {m : List β} (h : All2 R l m) : ∀ (i : Nat) (a : α) (b : β), R a b → All2 R (l.set i a) (m.set i b) := by
  induction h with
  | nil => intro i a b _; exact .nil
  | cons h t ih =>
    intro i a b hab
    cases i with
    | zero => exact .cons hab t
    | succ i => exact .cons h (ih i a b hab)

structure Ctx where
  h : Heap
  S : Nat → Prop
  m : Nat → Nat
  H : Nat → Value
  F : Nat → Nat → Prop
  loc : List Blk

def plRel (Γ : Ctx) : Place → Value → Prop
  | .box b off, v => v = .pointer (some ⟨Γ.m b, off, none⟩) ∧ ∃ cs, Γ.loc[b]? = some (.box cs)
  | .elem b i off, v => ∃ pin τ xs, Γ.loc[b]? = some (.row pin τ xs) ∧ i < xs.length ∧ v = .pointer (some ⟨Γ.m b, i * τ.size + off, none⟩)
  | .view τ x off, v => ∃ c o arr te fz, v = .pointer (some ⟨c, o + off, none⟩) ∧ Γ.S c ∧ Γ.h[c]? = some (.cells arr te fz) ∧ o + τ.size ≤ arr.size ∧ Rep Γ.h Γ.S τ x (win arr o τ.size)

def slRel (Γ : Ctx) : Sl → Value → Prop
  | .nil, v => ∃ base, v = .slice base 0 0
  | .row b, v => v = Γ.H b ∧ ∃ pin τ xs, Γ.loc[b]? = some (.row pin τ xs)
  | .sub b off len, v => ∃ pin τ xs, Γ.loc[b]? = some (.row pin τ xs) ∧ off + len ≤ xs.length ∧
      ∃ base cap, v = .slice base len cap ∧ len ≤ cap ∧ cap ≤ maxLen ∧ (len = 0 ∨ base = some ⟨Γ.m b, off * τ.size, none⟩)
  | .view τ xs, v => Rep Γ.h Γ.S (.slice τ) xs [v]
  | .nest b i off τ xs, v => Rep Γ.h (fun c => Γ.F b c ∨ Γ.S c) (.slice τ) xs [v] ∧ Γ.F b (Γ.m b) ∧
      ∃ pin τ' xs' arr te, Γ.loc[b]? = some (.row pin τ' xs') ∧ hasSl τ' = true ∧ i < xs'.length ∧ Γ.h[Γ.m b]? = some (.cells arr te (0, 0)) ∧ arr.toList[i * τ'.size + off]? = some v

def cRel (Γ : Ctx) : C → Value → Prop
  | .undef, v => v.oneCell' = true
  | .int k n, v => v = .int k n ∧ inR k n
  | .bool b, v => v = .bool b
  | .flt k x, v => ∃ b, v = .float k b ∧ FRel k x b
  | .str s, v => v = .string s ∧ s.size ≤ maxLen
  | .fn f caps, v => ∃ vs : Array Value, v = .func (.func f) #[] vs ∧ All2 (plRel Γ) caps vs.toList
  | .pnil, v => v = .pointer none
  | .ptr p, v => plRel Γ p v
  | .sl s, v => slRel Γ s v

def v1Rel (Γ : Ctx) : V1 → Value → Prop
  | .one c, v => cRel Γ c v
  | .agg cs, v => ∃ arr, v = .agg arr ∧ All2 (cRel Γ) cs arr.toList

def fvRel (Γ : Ctx) : FV → Value → Prop
  | .undef, _ => True
  | .v x, v => v1Rel Γ x v
  | .tup xs, v => ∃ vs, v = .tuple vs ∧ All2 (v1Rel Γ) xs vs.toList

def Blk.alive : Blk → Bool
  | .dead => false
  | _ => true

def blkRel (Γ : Ctx) (b : Nat) : Blk → Prop
  | .dead => True
  | .box cs => ∃ arr te, Γ.h[Γ.m b]? = some (.cells arr te (0, 0)) ∧ All2 (cRel Γ) cs arr.toList ∧ Γ.F b (Γ.m b)
  | .row _ τ xs => Own Γ.h Γ.S (.slice τ) xs [Γ.H b] (Γ.F b) ∧ ∃ base cap, Γ.H b = .slice base xs.length cap ∧ (cap = 0 ∨ base = some ⟨Γ.m b, 0, none⟩)

/-- The world in which a call began, and the headers of the rows that it was lent. -/
structure W0 extends World where
  lent : Nat → Value

/-- The state of the interpreter and that of the machine. w0: the world in which the call began; S: the blocks that stay. -/
structure Rel (w0 : W0) (S : Nat → Prop) (m : Nat → Nat) (H : Nat → Value) (F : Nat → Nat → Prop) (st : St) (a : Act) (w : World) : Prop where
  size : a.tmps.size = st.n
  defers : a.defers = []
  fr : ∀ t, fvRel ⟨w.heap, S, m, H, F, st.loc⟩ (look st.fr t) (a.tmps.getD t undef)
  blk : ∀ b k, st.loc[b]? = some k → blkRel ⟨w.heap, S, m, H, F, st.loc⟩ b k
  own : ∀ b k, st.loc[b]? = some k → k.alive = true → ∀ c, F b c → c < w.heap.size ∧ ¬ S c
  disj : ∀ b b' k k', st.loc[b]? = some k → st.loc[b']? = some k' → k.alive = true → k'.alive = true → b ≠ b' → ∀ c, F b c → ¬ F b' c
  stab : ∀ c, S c → c < w0.heap.size ∧ w.heap[c]? = w0.heap[c]?
  grow : w0.heap.size ≤ w.heap.size
  os : w.os = w0.os
  tape : w.tape = w0.tape
  output : w.output = w0.output
  pin : ∀ b τ xs, st.loc[b]? = some (.row true τ xs) → H b = w0.lent b

/-! ### Moving from one context to another -/
theorem memB_iff (l : List Nat) (b : Nat) : memB l b = true ↔ b ∈ l := by
  induction l with
  | nil => simp [memB]
  | cons x r ih =>
    simp only [memB, Bool.or_eq_true, ih, List.mem_cons, Nat.beq_eq]
    exact ⟨fun h => h.imp Eq.symm id, fun h => h.imp Eq.symm id⟩

theorem memB_false (l : List Nat) (b : Nat) : memB l b = false ↔ b ∉ l := by
  rw [← memB_iff, Bool.not_eq_true]

/-- What must be true of two contexts so that references stay: ds are gone, the elements of ns may have changed. -/
structure Moves (Γ Δ : Ctx) (ds ns : List Nat) : Prop where
  S : ∀ c, Γ.S c → Δ.S c
  hS : ∀ c, Γ.S c → Δ.h[c]? = Γ.h[c]?
  box : ∀ b cs, b ∉ ds → Γ.loc[b]? = some (.box cs) → Δ.m b = Γ.m b ∧ ∃ cs', Δ.loc[b]? = some (.box cs')
  row : ∀ b pin τ xs, b ∉ ds → Γ.loc[b]? = some (.row pin τ xs) → Δ.m b = Γ.m b ∧ Δ.H b = Γ.H b ∧ ∃ pin' xs', Δ.loc[b]? = some (.row pin' τ xs') ∧ xs'.length = xs.length
  nest : ∀ b pin τ xs, b ∉ ds → b ∉ ns → Γ.loc[b]? = some (.row pin τ xs) → hasSl τ = true → (∀ c, Γ.F b c → Δ.F b c) ∧ ∀ c, Γ.F b c → Δ.h[c]? = Γ.h[c]?

section moves
variable {Γ Δ : Ctx} {ds ns : List Nat}

theorem plRel.move (M : Moves Γ Δ ds ns) {p : Place} {v : Value} (hk : p.hit ds = false) (h : plRel Γ p v) : plRel Δ p v := by
  cases p with
  | box b off =>
    obtain ⟨rfl, cs, hc⟩ := h
    obtain ⟨e, cs', hc'⟩ := M.box b cs ((memB_false _ _).1 hk) hc
    exact ⟨by rw [e], cs', hc'⟩
  | elem b i off =>
    obtain ⟨pin, τ, xs, hc, hi, rfl⟩ := h
    obtain ⟨e, _, pin', xs', hc', hl⟩ := M.row b pin τ xs ((memB_false _ _).1 hk) hc
    exact ⟨pin', τ, xs', hc', by omega, by rw [e]⟩
  | view τ x off =>
    obtain ⟨c, o, arr, te, fz, rfl, hs, hg, hb, hr⟩ := h
    exact ⟨c, o, arr, te, fz, rfl, M.S c hs, (M.hS c hs).trans hg, hb, Rep.mono M.S M.hS _ _ _ hr⟩

theorem plRel.one {p : Place} {v : Value} (h : plRel Γ p v) : v.oneCell' = true := by
  cases p with
  | box b off => obtain ⟨rfl, _⟩ := h; rfl
  | elem b i off => obtain ⟨_, _, _, _, _, rfl⟩ := h; rfl
  | view τ x off => obtain ⟨_, _, _, _, _, rfl, _⟩ := h; rfl

theorem Own.slice_one {h : Heap} {S F : Nat → Prop} {τ : Ty} {xs : List τ.D} {v : Value} (r : Own h S (.slice τ) xs [v] F) : ∃ base cap, v = .slice base xs.length cap := by
  obtain ⟨_, base, cap, e, _⟩ := r
  exact ⟨base, cap, by simpa using e⟩

theorem slRel.one {s : Sl} {v : Value} (hb : ∀ b pin τ xs, Γ.loc[b]? = some (.row pin τ xs) → ∃ base cap, Γ.H b = .slice base xs.length cap) (h : slRel Γ s v) : v.oneCell' = true := by
  cases s with
  | nil => obtain ⟨_, rfl⟩ := h; rfl
  | row b =>
    obtain ⟨rfl, pin, τ, xs, hc⟩ := h
    obtain ⟨base, cap, e⟩ := hb b pin τ xs hc
    rw [e]; rfl
  | sub b off len => obtain ⟨_, _, _, _, _, _, _, rfl, _⟩ := h; rfl
  | view τ xs =>
    obtain ⟨_, base, cap, e, _⟩ := h
    cases e; rfl
  | nest b i off τ xs =>
    obtain ⟨⟨_, base, cap, e, _⟩, _⟩ := h
    cases e; rfl

theorem cRel.one {c : C} {v : Value} (hb : ∀ b pin τ xs, Γ.loc[b]? = some (.row pin τ xs) → ∃ base cap, Γ.H b = .slice base xs.length cap) (h : cRel Γ c v) : v.oneCell' = true := by
  cases c with
  | undef => exact h
  | int k n => obtain ⟨rfl, _⟩ := h; rfl
  | bool b => cases h; rfl
  | flt k x => obtain ⟨b, rfl, _⟩ := h; rfl
  | str s => obtain ⟨rfl, _⟩ := h; rfl
  | fn f caps => obtain ⟨_, rfl, _⟩ := h; rfl
  | pnil => cases h; rfl
  | ptr p => exact plRel.one h
  | sl s => exact slRel.one hb h

theorem cRel.move' (M : Moves Γ Δ ds ns) {c : C} {v : Value} (h : cRel Γ c v) (h2 : c.kill ds ns = .undef → v.oneCell' = true) : cRel Δ (c.kill ds ns) v := by
  cases c with
  | undef => exact h
  | int k n => exact h
  | bool b => exact h
  | flt k x => exact h
  | str s => exact h
  | fn f caps =>
    simp only [C.kill]
    cases hk : caps.any (Place.hit ds)
    · obtain ⟨vs, rfl, ha⟩ := h
      refine ⟨vs, rfl, ?_⟩
      clear h2
      revert hk
      generalize vs.toList = l at ha
      intro hk
      induction ha with
      | nil => exact .nil
      | cons h t ih =>
        simp only [List.any_cons, Bool.or_eq_false_iff] at hk
        exact .cons (h.move M hk.1) (ih hk.2)
    · exact h2 (by simp [C.kill, hk])
  | pnil => exact h
  | ptr p =>
    simp only [C.kill]
    cases hk : p.hit ds
    · exact plRel.move M hk h
    · exact h2 (by simp [C.kill, hk])
  | sl s =>
    cases s with
    | nil => exact h
    | row b =>
      simp only [C.kill]
      cases hk : memB ds b
      · obtain ⟨rfl, pin, τ, xs, hc⟩ := h
        obtain ⟨_, e, pin', xs', hc', _⟩ := M.row b pin τ xs ((memB_false _ _).1 hk) hc
        exact ⟨e.symm, pin', τ, xs', hc'⟩
      · exact h2 (by simp [C.kill, hk])
    | sub b off len =>
      simp only [C.kill]
      cases hk : memB ds b
      · obtain ⟨pin, τ, xs, hc, hl, base, cap, rfl, h2, h3, h4⟩ := h
        obtain ⟨e, _, pin', xs', hc', hl'⟩ := M.row b pin τ xs ((memB_false _ _).1 hk) hc
        exact ⟨pin', τ, xs', hc', by omega, base, cap, rfl, h2, h3, h4.imp id (fun h => by rw [h, e])⟩
      · exact h2 (by simp [C.kill, hk])
    | view τ xs => exact Rep.mono M.S M.hS (.slice τ) xs [v] h
    | nest b i off τ xs =>
      simp only [C.kill]
      cases hk : memB ds b || memB ns b
      · simp only [Bool.or_eq_false_iff] at hk
        obtain ⟨hr, hF, pin, τ', xs', arr, te, hc, hsl, hi, hg, hv⟩ := h
        obtain ⟨e, _, pin', xs'', hc', hl'⟩ := M.row b pin τ' xs' ((memB_false _ _).1 hk.1) hc
        obtain ⟨n1, n2⟩ := M.nest b pin τ' xs' ((memB_false _ _).1 hk.1) ((memB_false _ _).1 hk.2) hc hsl
        refine ⟨Rep.mono (fun c hc => hc.imp (n1 c) (M.S c)) (fun c hc => ?_) (.slice τ) xs [v] hr, ?_, pin', τ', xs'', arr, te, hc', hsl, by omega, ?_, hv⟩
        · exact hc.elim (n2 c) (M.hS c)
        · rw [e]; exact n1 _ hF
        · rw [e]; exact (n2 _ hF).trans hg
      · exact h2 (by simp [C.kill, hk])

theorem cRel.move (M : Moves Γ Δ ds ns) (hb : ∀ b pin τ xs, Γ.loc[b]? = some (.row pin τ xs) → ∃ base cap, Γ.H b = .slice base xs.length cap)
    {c : C} {v : Value} (h : cRel Γ c v) : cRel Δ (c.kill ds ns) v := cRel.move' M h fun _ => cRel.one hb h

theorem v1Rel.move (M : Moves Γ Δ ds ns) (hb : ∀ b pin τ xs, Γ.loc[b]? = some (.row pin τ xs) → ∃ base cap, Γ.H b = .slice base xs.length cap)
    {x : V1} {v : Value} (h : v1Rel Γ x v) : v1Rel Δ (x.kill ds ns) v := by
  cases x with
  | one c => exact cRel.move M hb h
  | agg cs =>
    obtain ⟨arr, rfl, ha⟩ := h
    exact ⟨arr, rfl, ha.map_left fun _ _ h => h.move M hb⟩

theorem fvRel.move (M : Moves Γ Δ ds ns) (hb : ∀ b pin τ xs, Γ.loc[b]? = some (.row pin τ xs) → ∃ base cap, Γ.H b = .slice base xs.length cap)
    {x : FV} {v : Value} (h : fvRel Γ x v) : fvRel Δ (x.kill ds ns) v := by
  cases x with
  | undef => trivial
  | v x => exact v1Rel.move M hb h
  | tup xs =>
    obtain ⟨vs, rfl, ha⟩ := h
    exact ⟨vs, rfl, ha.map_left fun _ _ h => h.move M hb⟩

end moves

/-! killing nothing -/
theorem Place.hit_nil (p : Place) : p.hit [] = false := by cases p <;> rfl
theorem any_hit_nil (l : List Place) : l.any (Place.hit []) = false := by
  induction l with
  | nil => rfl
  | cons p r ih => simp [Place.hit_nil]
theorem C.kill_nil (c : C) : c.kill [] [] = c := by
  cases c with
  | fn f caps => simp [C.kill, any_hit_nil]
  | ptr p => simp [C.kill, Place.hit_nil]
  | sl s => cases s <;> rfl
  | _ => rfl
theorem map_kill_nil (l : List C) : l.map (C.kill [] []) = l := by
  induction l with
  | nil => rfl
  | cons c r ih => rw [List.map_cons, C.kill_nil, ih]
theorem V1.kill_nil (x : V1) : x.kill [] [] = x := by cases x <;> simp [V1.kill, C.kill_nil, map_kill_nil]
theorem FV.kill_nil (x : FV) : x.kill [] [] = x := by
  cases x with
  | tup xs => simp only [FV.kill]; congr 1; induction xs with
    | nil => rfl
    | cons c r ih => rw [List.map_cons, V1.kill_nil, ih]
  | _ => simp [FV.kill, V1.kill_nil]

theorem look_kill (ds ns : List Nat) (fr : List (Nat × FV)) (t : Nat) : look (killFr ds ns fr) t = (look fr t).kill ds ns := by
  induction fr with
  | nil => rfl
  | cons p r ih =>
    obtain ⟨d, v⟩ := p
    simp only [killFr, List.map_cons, look] at ih ⊢
    cases Nat.beq d t
    · exact ih
    · rfl

theorem cRel.same {Γ Δ : Ctx} (M : Moves Γ Δ [] []) {x : C} {v : Value} (h : cRel Γ x v) : cRel Δ x v := by
  have := cRel.move' M h (fun e => by rw [C.kill_nil] at e; subst e; exact h)
  rwa [C.kill_nil] at this
theorem v1Rel.same {Γ Δ : Ctx} (M : Moves Γ Δ [] []) {x : V1} {v : Value} (h : v1Rel Γ x v) : v1Rel Δ x v := by
  cases x with
  | one c => exact cRel.same M h
  | agg cs =>
    obtain ⟨arr, rfl, ha⟩ := h
    exact ⟨arr, rfl, ha.imp fun _ _ h => h.same M⟩
theorem fvRel.same {Γ Δ : Ctx} (M : Moves Γ Δ [] []) {x : FV} {v : Value} (h : fvRel Γ x v) : fvRel Δ x v := by
  cases x with
  | undef => trivial
  | v x => exact v1Rel.same M h
  | tup xs =>
    obtain ⟨vs, rfl, ha⟩ := h
    exact ⟨vs, rfl, ha.imp fun _ _ h => h.same M⟩

theorem Rel.hdr {w0 : W0} {w : World} {S : Nat → Prop} {m : Nat → Nat} {H : Nat → Value} {F : Nat → Nat → Prop} {st : St} {a : Act} (h : Rel w0 S m H F st a w) :
    ∀ b pin τ xs, st.loc[b]? = some (.row pin τ xs) → ∃ base cap, H b = .slice base xs.length cap := fun b pin τ xs hc => by
  obtain ⟨_, base, cap, e, _⟩ := h.blk b _ hc
  exact ⟨base, cap, e⟩

end Go.Fw
