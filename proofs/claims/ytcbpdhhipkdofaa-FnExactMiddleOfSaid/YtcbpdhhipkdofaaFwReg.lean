/- Regions whose order is open: what the interpreter takes in the order of the text, the machine does in any order. No condition. -/
import Derived.Test.YtcbpdhhipkdofaaFwEff2
import Derived.StillTail
namespace Go.Fw

theorem force_eq {α : Type} (n : Nat) (k : Nat → α) : force n k = k n := by cases n <;> rfl
theorem forceL_eq {α : Type} : ∀ (l : List Nat) (k : List Nat → α), forceL l k = k l
  | [], _ => rfl
  | x :: r, k => by rw [forceL, forceL_eq r]
theorem befs_eq {α : Type} : ∀ (l : List Oper) (acc : List Nat), ∃ bs, ∀ f : List Nat → α, befs l acc f = f bs
  | [], acc => ⟨acc, fun f => by rw [befs, forceL_eq]⟩
  | o :: r, acc => by
    obtain ⟨bs, h⟩ := befs_eq (α := α) r (acc ++ [edgeMask (fun i => acc.getD i 0) o.after.toList])
    exact ⟨bs, fun f => by rw [befs, force_eq, forceL_eq, h]⟩

theorem edgesUp_spec {k : Nat} : ∀ {l : List Edge}, edgesUp k l = true → ∀ e, e ∈ l → Region.binds .any e = true → e.on < k
  | e :: r, h, e', he, hb => by
    simp only [edgesUp, Bool.and_eq_true, Bool.or_eq_true, Bool.not_eq_true', Nat.blt_eq] at h
    cases he with
    | head => exact h.1.resolve_left (by rw [hb]; simp)
    | tail _ he => exact edgesUp_spec h.2 e' he hb

theorem edgeMask_spec {look : Nat → Nat} {j : Nat} : ∀ {l : List Edge}, (edgeMask look l).testBit j = true ↔ ∃ e, e ∈ l ∧ Region.binds .any e = true ∧ (e.on = j ∨ (look e.on).testBit j = true)
  | [] => by simp [edgeMask]
  | e :: r => by
    simp only [edgeMask]
    cases hb : Region.binds .any e
    · simp only [cond_false]
      rw [edgeMask_spec]
      constructor
      · rintro ⟨e', he, h⟩; exact ⟨e', .tail _ he, h⟩
      · rintro ⟨e', he, h1, h2⟩
        cases he with
        | head => rw [hb] at h1; cases h1
        | tail _ he => exact ⟨e', he, h1, h2⟩
    · simp only [cond_true, Nat.testBit_or, Bool.or_eq_true, Nat.testBit_two_pow, decide_eq_true_eq]
      rw [edgeMask_spec]
      constructor
      · rintro (h | h | ⟨e', he, h⟩)
        · exact ⟨e, .head _, hb, .inl h⟩
        · exact ⟨e, .head _, hb, .inr h⟩
        · exact ⟨e', .tail _ he, h⟩
      · rintro ⟨e', he, h1, h2⟩
        cases he with
        | head => exact h2.elim .inl fun h => .inr (.inl h)
        | tail _ he => exact .inr (.inr ⟨e', he, h1, h2⟩)

theorem befOk_spec {bs : List Nat} : ∀ {l : List Oper} {k : Nat}, befOk bs k l = true → ∀ i o, l[i]? = some o → (∀ e, e ∈ o.after.toList → Region.binds .any e = true → e.on < k + i) ∧
    ∀ j, visB bs j (k + i) = true ↔ ∃ e, e ∈ o.after.toList ∧ Region.binds .any e = true ∧ (e.on = j ∨ visB bs j e.on = true)
  | [], k, _, i, o, ho => by simp at ho
  | x :: r, k, h, i, o, ho => by
    simp only [befOk, Bool.and_eq_true] at h
    cases i with
    | zero =>
      simp at ho
      subst ho
      refine ⟨fun e he hb => edgesUp_spec h.1.1 e he hb, fun j => ?_⟩
      unfold visB
      rw [Nat.add_zero, Nat.eq_of_beq_eq_true h.1.2]
      exact edgeMask_spec
    | succ i =>
      have := befOk_spec h.2 i o (by simpa using ho)
      rwa [show k + 1 + i = k + (i + 1) by omega] at this

/-- Who comes before whom. -/
structure Bef (ops : List Oper) (bs : List Nat) : Prop where
  up : ∀ i o, ops[i]? = some o → ∀ e, e ∈ o.after.toList → Region.binds .any e = true → e.on < i
  vis : ∀ i o, ops[i]? = some o → ∀ j, visB bs j i = true ↔ ∃ e, e ∈ o.after.toList ∧ Region.binds .any e = true ∧ (e.on = j ∨ visB bs j e.on = true)

theorem Bef.of {ops : List Oper} {bs : List Nat} (h : befOk bs 0 ops = true) : Bef ops bs :=
  ⟨fun i o ho => by have := (befOk_spec h i o ho).1; rwa [Nat.zero_add] at this, fun i o ho => by have := (befOk_spec h i o ho).2; rwa [Nat.zero_add] at this⟩

section bef
variable {ops : List Oper} {bs : List Nat} (B : Bef ops bs)
include B

theorem Bef.lt : ∀ (k j : Nat), k < ops.length → visB bs j k = true → j < k := by
  intro k
  induction k using Nat.strongRecOn with
  | _ k ih =>
    intro j hk h
    obtain ⟨o, ho⟩ : ∃ o, ops[k]? = some o := ⟨ops[k], List.getElem?_eq_getElem hk⟩
    obtain ⟨e, he, hb, h | h⟩ := (B.vis k o ho j).1 h
    · have := B.up k o ho e he hb; omega
    · have hl := B.up k o ho e he hb
      have := ih e.on hl j (by omega) h
      omega

theorem Bef.trans : ∀ (k i j : Nat), k < ops.length → visB bs i j = true → visB bs j k = true → visB bs i k = true := by
  intro k
  induction k using Nat.strongRecOn with
  | _ k ih =>
    intro i j hk hij hjk
    obtain ⟨o, ho⟩ : ∃ o, ops[k]? = some o := ⟨ops[k], List.getElem?_eq_getElem hk⟩
    obtain ⟨e, he, hb, h | h⟩ := (B.vis k o ho j).1 hjk
    · subst h
      exact (B.vis k o ho i).2 ⟨e, he, hb, .inr hij⟩
    · have hl := B.up k o ho e he hb
      exact (B.vis k o ho i).2 ⟨e, he, hb, .inr (ih e.on hl i j (by omega) hij h)⟩

/-- Whoever is ready has all before him done. -/
theorem Bef.ready {X : Nat → Prop} (hX : ∀ k, X k → ∀ j, visB bs j k = true → X j) {k : Nat} {o : Oper} (ho : ops[k]? = some o) (hr : ∀ e, e ∈ o.after.toList → Region.binds .any e = true → X e.on) :
    ∀ j, visB bs j k = true → X j := by
  intro j hj
  obtain ⟨e, he, hb, h | h⟩ := (B.vis k o ho j).1 hj
  · subst h; exact hr e he hb
  · exact hX e.on (hr e he hb) j h
end bef

/-! ### parts of the blocks -/
/-- What lives in l lives in l', the same. -/
def Sub (l l' : List Blk) : Prop := ∀ (b : Nat) (k : Blk), l[b]? = some k → k.alive = true → l'[b]? = some k

theorem Sub.refl (l : List Blk) : Sub l l := fun _ _ h _ => h
theorem Sub.trans {a b c : List Blk} (h : Sub a b) (g : Sub b c) : Sub a c := fun i k hk ha => g i k (h i k hk ha) ha

theorem Moves.sub {S : Nat → Prop} {m m' : Nat → Nat} {H H' : Nat → Value} {F F' : Nat → Nat → Prop} {l l' : List Blk} {w w' : World}
    (hS : ∀ c, S c → c < w.heap.size) (hF : ∀ b k, l[b]? = some k → k.alive = true → ∀ c, F b c → c < w.heap.size) (he : Ext w w') (hs : Sub l l')
    (hm : ∀ b k, l[b]? = some k → k.alive = true → m' b = m b ∧ H' b = H b ∧ F' b = F b) : Moves ⟨w.heap, S, m, H, F, l⟩ ⟨w'.heap, S, m', H', F', l'⟩ [] [] := by
  refine ⟨fun _ h => h, fun c hc => he.heap c (hS c hc), fun b cs _ hb => ⟨(hm b _ hb rfl).1, cs, hs b _ hb rfl⟩,
    fun b pin τ xs _ hb => ⟨(hm b _ hb rfl).1, (hm b _ hb rfl).2.1, pin, xs, hs b _ hb rfl, rfl⟩, fun b pin τ xs _ _ hb _ => ⟨fun c hc => ?_, fun c hc => he.heap c (hF b _ hb rfl c hc)⟩⟩
  show F' b c
  rw [(hm b _ hb rfl).2.2]; exact hc

theorem blkRel.same' {Γ Δ : Ctx} (M : Moves Γ Δ [] []) {b : Nat} {k : Blk} (h : blkRel Γ b k) (hm : k.alive = true → Δ.m b = Γ.m b ∧ Δ.H b = Γ.H b ∧ Δ.F b = Γ.F b) (hh : k.alive = true → ∀ c, Γ.F b c → Δ.h[c]? = Γ.h[c]?) (hS : Δ.S = Γ.S) : blkRel Δ b k := by
  cases k with
  | dead => trivial
  | box cs =>
    obtain ⟨arr, te, hg, ha, hF⟩ := h
    obtain ⟨e1, e2, e3⟩ := hm rfl
    refine ⟨arr, te, ?_, ha.imp fun _ _ h => h.same M, ?_⟩
    · rw [e1]; exact (hh rfl _ hF).trans hg
    · rw [e1, e3]; exact hF
  | row pin τ xs =>
    obtain ⟨ho, base, cap, e, hb⟩ := h
    obtain ⟨e1, e2, e3⟩ := hm rfl
    refine ⟨?_, base, cap, e2.trans e, by rw [e1]; exact hb⟩
    rw [e2, e3, hS]
    exact Own.mono (fun _ h => h) (fun c hc => M.hS c hc) _ _ _ _ _ (fun _ h => h) (hh rfl) ho

def locN (l : List Blk) (bs : Nat → List Blk) : Nat → List Blk
  | 0 => l
  | n + 1 => locN l bs n ++ bs n
def tagN (l : List Blk) (bs : Nat → List Blk) : Nat → List Nat
  | 0 => List.replicate l.length 0
  | n + 1 => tagN l bs n ++ List.replicate (bs n).length (n + 1)
def entN (dst : Nat → Option Tmp) (vs : Nat → FV) : Nat → List (Nat × Option Tmp × FV)
  | 0 => []
  | n + 1 => (n, dst n, vs n) :: entN dst vs n
def maskN (V : Nat → Bool) (l : List Blk) (bs : Nat → List Blk) : Nat → List Blk
  | 0 => l
  | n + 1 => maskN V l bs n ++ (bif V n then bs n else (bs n).map fun _ => .dead)

theorem tagN_length (l : List Blk) (bs : Nat → List Blk) : ∀ n, (tagN l bs n).length = (locN l bs n).length
  | 0 => by simp [tagN, locN]
  | n + 1 => by simp [tagN, locN, tagN_length l bs n]
theorem maskN_length (V : Nat → Bool) (l : List Blk) (bs : Nat → List Blk) : ∀ n, (maskN V l bs n).length = (locN l bs n).length
  | 0 => rfl
  | n + 1 => by
    simp only [maskN, locN, List.length_append, maskN_length V l bs n]
    cases V n <;> simp

theorem maskLoc_append (V : Nat → Bool) : ∀ (l l' : List Blk) (t t' : List Nat), l.length = t.length → maskLoc V (l ++ l') (t ++ t') = maskLoc V l t ++ maskLoc V l' t'
  | [], l', [], t', _ => by simp [maskLoc]
  | [], _, _ :: _, _, h => by simp at h
  | _ :: _, _, [], _, h => by simp at h
  | b :: l, l', x :: t, t', h => by
    simp only [List.cons_append, maskLoc]
    rw [maskLoc_append V l l' t t' (by simpa using h)]

theorem maskLoc_zero (V : Nat → Bool) : ∀ l : List Blk, maskLoc V l (List.replicate l.length 0) = l
  | [] => rfl
  | b :: l => by simp [maskLoc, List.replicate_succ, maskLoc_zero V l]

theorem maskLoc_one (V : Nat → Bool) (n : Nat) : ∀ l : List Blk, maskLoc V l (List.replicate l.length (n + 1)) = bif V n then l else l.map fun _ => .dead
  | [] => by cases V n <;> rfl
  | b :: l => by
    have e : Nat.beq (n + 1) 0 = false := rfl
    simp only [List.length_cons, List.replicate_succ, maskLoc, maskLoc_one V n l, e, cond_false, Nat.add_sub_cancel]
    cases V n <;> simp

theorem maskLoc_eq (V : Nat → Bool) (l : List Blk) (bs : Nat → List Blk) : ∀ n, maskLoc V (locN l bs n) (tagN l bs n) = maskN V l bs n
  | 0 => maskLoc_zero V l
  | n + 1 => by
    simp only [locN, tagN, maskN]
    rw [maskLoc_append V _ _ _ _ (tagN_length l bs n).symm, maskLoc_eq V l bs n, maskLoc_one]

theorem getElem?_append_ge' {α : Type} {l m : List α} {i : Nat} (h : l.length ≤ i) : (l ++ m)[i]? = m[i - l.length]? := List.getElem?_append_right h

theorem maskN_base {V : Nat → Bool} (l : List Blk) (bs : Nat → List Blk) : ∀ n, Sub l (maskN V l bs n)
  | 0 => Sub.refl l
  | n + 1 => (maskN_base l bs n).trans fun b k hk _ => by
    simp only [maskN]
    rw [getElem?_append_lt (List.getElem?_eq_some_iff.1 hk).1]; exact hk

theorem maskN_part {V : Nat → Bool} (l : List Blk) (bs : Nat → List Blk) : ∀ {i n : Nat}, V i = true → i < n → ∀ (j : Nat) (k : Blk), (bs i)[j]? = some k → (maskN V l bs n)[(locN l bs i).length + j]? = some k := by
  intro i n hv
  induction n with
  | zero => intro h; omega
  | succ n' ih =>
    intro hlt j k hk
    simp only [maskN]
    by_cases e : i = n'
    · subst e
      rw [hv, ← maskN_length V l bs i, getElem?_append_ge' (by omega)]
      simpa using hk
    · have := ih (by omega) j k hk
      rw [getElem?_append_lt (List.getElem?_eq_some_iff.1 this).1]; exact this

theorem maskN_congr {V V' : Nat → Bool} {bs bs' : Nat → List Blk} (l : List Blk) : ∀ {n : Nat}, (∀ i, i < n → V i = V' i ∧ bs i = bs' i) → maskN V l bs n = maskN V' l bs' n
  | 0, _ => rfl
  | n + 1, h => by
    simp only [maskN]
    rw [maskN_congr l fun i hi => h i (by omega), (h n (by omega)).1, (h n (by omega)).2]
theorem locN_congr {bs bs' : Nat → List Blk} (l : List Blk) : ∀ {n : Nat}, (∀ i, i < n → bs i = bs' i) → locN l bs n = locN l bs' n
  | 0, _ => rfl
  | n + 1, h => by
    simp only [locN]
    rw [locN_congr l fun i hi => h i (by omega), h n (by omega)]
theorem tagN_congr {bs bs' : Nat → List Blk} (l : List Blk) : ∀ {n : Nat}, (∀ i, i < n → bs i = bs' i) → tagN l bs n = tagN l bs' n
  | 0, _ => rfl
  | n + 1, h => by
    simp only [tagN]
    rw [tagN_congr l fun i hi => h i (by omega), h n (by omega)]
theorem entN_congr {dst : Nat → Option Tmp} {vs vs' : Nat → FV} : ∀ {n : Nat}, (∀ i, i < n → vs i = vs' i) → entN dst vs n = entN dst vs' n
  | 0, _ => rfl
  | n + 1, h => by
    simp only [entN]
    rw [entN_congr fun i hi => h i (by omega), h n (by omega)]

/-- A living block of a part: of the base, or of one of the operations. -/
theorem maskN_inv {V : Nat → Bool} {l : List Blk} {bs : Nat → List Blk} : ∀ {n b : Nat} {k : Blk}, (maskN V l bs n)[b]? = some k → k.alive = true →
    (b < l.length ∧ l[b]? = some k) ∨ ∃ i j, i < n ∧ V i = true ∧ b = (locN l bs i).length + j ∧ (bs i)[j]? = some k
  | 0, b, k, h, _ => .inl ⟨(List.getElem?_eq_some_iff.1 h).1, h⟩
  | n + 1, b, k, h, ha => by
    simp only [maskN] at h
    rcases Nat.lt_or_ge b (maskN V l bs n).length with hlt | hge
    · rw [getElem?_append_lt hlt] at h
      rcases maskN_inv h ha with h | ⟨i, j, h1, h2⟩
      · exact .inl h
      · exact .inr ⟨i, j, by omega, h2⟩
    · rw [getElem?_append_ge' hge] at h
      cases hv : V n
      · rw [hv] at h
        simp only [cond_false, List.getElem?_map] at h
        cases hb : (bs n)[b - (maskN V l bs n).length]? <;> rw [hb] at h <;> simp at h
        subst h
        cases ha
      · rw [hv] at h
        exact .inr ⟨n, b - (maskN V l bs n).length, by omega, hv, by rw [maskN_length] at hge ⊢; omega, h⟩

theorem locN_mono (l : List Blk) (bs : Nat → List Blk) : ∀ {i j : Nat}, i ≤ j → (locN l bs i).length ≤ (locN l bs j).length := by
  intro i j h
  induction h with
  | refl => exact Nat.le_refl _
  | step _ ih => exact Nat.le_trans ih (by simp [locN])

theorem locN_apart {l : List Blk} {bs : Nat → List Blk} {i i' j j' : Nat} (h : j < (bs i).length) (h' : j' < (bs i').length) (e : (locN l bs i).length + j = (locN l bs i').length + j') : i = i' ∧ j = j' := by
  rcases Nat.lt_trichotomy i i' with hlt | rfl | hlt
  · have := locN_mono l bs (show i + 1 ≤ i' by omega)
    simp only [locN, List.length_append] at this
    omega
  · exact ⟨rfl, by omega⟩
  · have := locN_mono l bs (show i' + 1 ≤ i by omega)
    simp only [locN, List.length_append] at this
    omega

theorem maskN_sub {V V' : Nat → Bool} (l : List Blk) (bs : Nat → List Blk) {n n' : Nat} (h : ∀ i, i < n → V i = true → V' i = true ∧ i < n') : Sub (maskN V l bs n) (maskN V' l bs n') := by
  intro b k hk ha
  rcases maskN_inv hk ha with ⟨_, h1⟩ | ⟨i, j, h1, h2, rfl, h3⟩
  · exact maskN_base l bs n' b k h1 ha
  · exact maskN_part l bs (h i h1 h2).1 (h i h1 h2).2 j k h3

end Go.Fw
