/- Cells and data: what enc, snapD, imp and ownD mean in a context. No condition. -/
import Derived.Test.YtcbpdhhipkdofaaFwRel
namespace Go.Fw

theorem win_toArray (arr : Array Value) : win arr 0 arr.size = arr.toList := by unfold win; rw [List.drop_zero, List.take_of_length_le (by simp)]

theorem win_win (arr : Array Value) (o n p q : Nat) (h : p + q ≤ n) : ((win arr o n).drop p).take q = win arr (o + p) q := by
  unfold win
  rw [List.drop_take, List.take_take, List.drop_drop, Nat.min_eq_left (by omega)]

/-- Two lists of one length with the same sum are split alike. -/
theorem All2.split_len {α β : Type} {R : α → β → Prop} {l : List α} {m1 m2 : List β} (h : All2 R l (m1 ++ m2)) : All2 R (l.take m1.length) m1 ∧ All2 R (l.drop m1.length) m2 := by
  have h1 := h.take m1.length
  have h2 := h.drop m1.length
  rw [List.take_left] at h1
  rw [List.drop_left] at h2
  exact ⟨h1, h2⟩

theorem enc_length : (τ : Ty) → (x : τ.D) → (enc τ x).length = τ.size
  | .int _, _ => rfl
  | .bool, _ => rfl
  | .flt _, _ => rfl
  | .str, _ => rfl
  | .unit, _ => rfl
  | .pair a b, x => by simp [enc, Ty.size, enc_length a, enc_length b]
  | .slice _, _ => rfl
  | .rslice _, _ => rfl
  | .ref _, _ => rfl
  | .fn _, _ => rfl

theorem encN_length (b i : Nat) : (o : Nat) → (τ : Ty) → (x : τ.D) → (encN b i o τ x).length = τ.size
  | _, .int _, _ => rfl
  | _, .bool, _ => rfl
  | _, .flt _, _ => rfl
  | _, .str, _ => rfl
  | _, .unit, _ => rfl
  | o, .pair a c, x => by simp [encN, Ty.size, encN_length b i o a, encN_length b i _ c]
  | _, .slice _, _ => rfl
  | _, .rslice _, _ => rfl
  | _, .ref _, _ => rfl
  | _, .fn _, _ => rfl

theorem enc_rel {Γ : Ctx} : (τ : Ty) → (x : τ.D) → (cs : List Value) → Rep Γ.h Γ.S τ x cs → All2 (cRel Γ) (enc τ x) cs
  | .int _, _, _, r => by obtain ⟨rfl, h⟩ := r; exact .cons ⟨rfl, h⟩ .nil
  | .bool, _, _, r => by cases r; exact .cons rfl .nil
  | .flt _, _, _, r => by obtain ⟨b, rfl, h⟩ := r; exact .cons ⟨b, rfl, h⟩ .nil
  | .str, _, _, r => by obtain ⟨rfl, h⟩ := r; exact .cons ⟨rfl, h⟩ .nil
  | .unit, _, _, r => by cases r; exact .nil
  | .pair a b, x, cs, r => by
    obtain ⟨c1, c2, rfl, r1, r2⟩ := r
    exact (enc_rel a _ _ r1).append (enc_rel b _ _ r2)
  | .slice e, xs, cs, r => by
    have r' := r
    obtain ⟨_, base, cap, rfl, _⟩ := r'
    exact .cons r .nil
  | .rslice e, xs, cs, r => by
    have r' := r
    obtain ⟨_, base, cap, rfl, _⟩ := r'
    exact .cons r .nil
  | .ref e, x, cs, r => by
    obtain ⟨c, o, arr, te, fz, rfl, hs, hg, hb, hr⟩ := r
    exact .cons ⟨c, o, arr, te, fz, rfl, hs, hg, hb, hr⟩ .nil
  | .fn f, _, cs, r => by
    have e : cs = _ := r
    rw [e]
    exact .cons ⟨#[], rfl, .nil⟩ .nil

theorem encN_rel {Γ : Ctx} {b i : Nat} {pin : Bool} {τ' : Ty} {xs' : List τ'.D} {arr : Array Value} {te : TypeId}
    (hl : Γ.loc[b]? = some (.row pin τ' xs')) (hi : i < xs'.length) (hg : Γ.h[Γ.m b]? = some (.cells arr te (0, 0))) (hF : Γ.F b (Γ.m b)) :
    (o : Nat) → (τ : Ty) → (x : τ.D) → (G : Nat → Prop) → (∀ c, G c → Γ.F b c) → (hasSl τ = true → hasSl τ' = true) →
    Own Γ.h Γ.S τ x (win arr (i * τ'.size + o) τ.size) G → All2 (cRel Γ) (encN b i o τ x) (win arr (i * τ'.size + o) τ.size)
  | o, .int _, _, _, _, _, r => by obtain ⟨e, h⟩ := r; rw [e]; exact .cons ⟨rfl, h⟩ .nil
  | o, .bool, _, _, _, _, r => by have e : _ = _ := r; rw [e]; exact .cons rfl .nil
  | o, .flt _, _, _, _, _, r => by obtain ⟨b, e, h⟩ := r; rw [e]; exact .cons ⟨b, rfl, h⟩ .nil
  | o, .str, _, _, _, _, r => by obtain ⟨e, h⟩ := r; rw [e]; exact .cons ⟨rfl, h⟩ .nil
  | o, .unit, _, _, _, _, r => by have e : _ = _ := r; rw [e]; exact .nil
  | o, .pair a c, x, G, hG, hs, r => by
    obtain ⟨c1, c2, F1, F2, e, r1, r2, s1, s2, _⟩ := r
    have l1 := r1.length
    have l2 := r2.length
    have e1 : c1 = win arr (i * τ'.size + o) a.size := by
      have := congrArg (List.take a.size) e
      rw [← l1, List.take_left, l1] at this
      rw [← this]
      have w := win_win arr (i * τ'.size + o) (a.size + c.size) 0 a.size (by omega)
      rw [List.drop_zero] at w
      exact w
    have e2 : c2 = win arr (i * τ'.size + (o + a.size)) c.size := by
      have := congrArg (List.drop a.size) e
      rw [← l1, List.drop_left, l1] at this
      rw [← this]
      have w := win_win arr (i * τ'.size + o) (a.size + c.size) a.size c.size (by omega)
      rw [Nat.add_assoc] at w
      rw [← w, List.take_of_length_le]
      · rfl
      · show (List.drop a.size (win arr (i * τ'.size + o) (Ty.pair a c).size)).length ≤ c.size
        rw [e, ← l1, List.drop_left]; omega
    rw [e, e1, e2]
    rw [e1] at r1
    rw [e2] at r2
    exact (encN_rel hl hi hg hF o a _ F1 (fun c hc => hG c (s1 c hc)) (fun h => hs (by simp [hasSl, h])) r1).append
      (encN_rel hl hi hg hF _ c _ F2 (fun c hc => hG c (s2 c hc)) (fun h => hs (by simp [hasSl, h])) r2)
  | o, .slice e, xs, G, hG, hs, r => by
    have hr := Own.rep (.slice e) xs _ G (fun c => Γ.F b c ∨ Γ.S c) (fun c hc => .inl (hG c hc)) (fun c hc => .inr hc) r
    obtain ⟨_, base, cap, ee, _⟩ := r
    have hv : arr.toList[i * τ'.size + o]? = some (.slice base (List.length xs) cap) := by
      have := congrArg (·[0]?) ee
      simpa [win, Ty.size, List.getElem?_take] using this
    rw [ee] at hr ⊢
    exact .cons ⟨hr, hF, pin, τ', xs', arr, te, hl, hs rfl, hi, hg, hv⟩ .nil
  | o, .rslice e, xs, _, _, _, r => by
    have r' := r
    obtain ⟨_, base, cap, e, _⟩ := r'
    rw [e] at r ⊢
    exact .cons r .nil
  | o, .ref e, x, _, _, _, r => by
    obtain ⟨c, o', arr', te', fz, e', hs, hg, hb, hr⟩ := r
    rw [e']
    exact .cons ⟨c, o', arr', te', fz, rfl, hs, hg, hb, hr⟩ .nil
  | o, .fn f, _, _, _, _, r => by
    have e : _ = _ := r
    rw [e]
    exact .cons ⟨#[], rfl, .nil⟩ .nil

/-- What a place holds. -/
theorem loadC_rel {Γ : Ctx} (hb : ∀ b k, Γ.loc[b]? = some k → blkRel Γ b k) {p : Place} {n : Nat} {cs : List C} {v : Value} (h : loadC Γ.loc n p = some cs) (hp : plRel Γ p v) :
    ∃ c off arr te fz, v = .pointer (some ⟨c, off, none⟩) ∧ Γ.h[c]? = some (.cells arr te fz) ∧ off + n ≤ arr.size ∧ All2 (cRel Γ) cs (win arr off n) := by
  cases p with
  | box b off =>
    simp only [loadC] at h
    split at h
    · rename_i cs0 hl
      cases hle : Nat.ble (off + n) cs0.length <;> rw [hle] at h <;> simp at h
      subst h
      obtain ⟨rfl, _⟩ := hp
      obtain ⟨arr, te, hg, ha, hF⟩ := hb b _ hl
      have hlen := ha.length
      refine ⟨Γ.m b, off, arr, te, (0, 0), rfl, hg, ?_, (ha.drop off).take n⟩
      have := Nat.le_of_ble_eq_true hle
      simp at hlen
      omega
    · cases h
  | elem b i off =>
    simp only [loadC] at h
    split at h
    · rename_i pin τ xs hl
      cases hle : Nat.ble (off + n) τ.size <;> rw [hle] at h <;> simp at h
      subst h
      have hle' := Nat.le_of_ble_eq_true hle
      obtain ⟨pin', τ', xs', hl', hi, rfl⟩ := hp
      rw [hl] at hl'
      cases hl'
      obtain ⟨⟨hml, base, cap, eH, hlc, hcm, h3⟩, base', cap', eH', hbase⟩ := hb b _ hl
      rw [eH'] at eH
      simp only [List.cons.injEq, Value.slice.injEq, and_true, true_and] at eH
      obtain ⟨rfl, rfl⟩ := eH
      rcases h3 with h3 | ⟨c, arr, te, rfl, hF, hg, hsz, G, g1, g2, hx⟩
      · omega
      · have hc : c = Γ.m b := by
          rcases hbase with h0 | h0
          · omega
          · simpa using h0
        subst hc
        have hxi := hx i xs[i] (List.getElem?_eq_getElem hi)
        have hgd : xs.getD i τ.zero = xs[i] := by simp [hi]
        have hmul : i * τ.size + τ.size ≤ cap' * τ.size := by
          rw [← Nat.succ_mul]; exact Nat.mul_le_mul_right _ (by omega)
        refine ⟨Γ.m b, i * τ.size + off, arr, te, (0, 0), rfl, hg, by omega, ?_⟩
        have hall := encN_rel hl hi hg hF 0 τ xs[i] (G i) (fun c hc => (g2 i c hc).1) (fun h => h) (by rw [Nat.add_zero]; exact hxi)
        rw [Nat.add_zero] at hall
        rw [← win_win arr (i * τ.size) τ.size off n hle']
        rw [← List.getD_eq_getElem?_getD, hgd]
        exact (hall.drop off).take n
    · cases h
  | view τ x off =>
    simp only [loadC] at h
    cases hle : Nat.ble (off + n) τ.size <;> rw [hle] at h <;> simp at h
    subst h
    have hle' := Nat.le_of_ble_eq_true hle
    obtain ⟨c, o, arr, te, fz, rfl, hs, hg, hsz, hr⟩ := hp
    refine ⟨c, o + off, arr, te, fz, rfl, hg, by omega, ?_⟩
    rw [← win_win arr o τ.size off n hle']
    exact ((enc_rel τ x _ hr).drop off).take n

theorem cstL_rfl {τ : Ty} (xs : List τ.D) : cstL rfl xs = xs := rfl

section scalars
variable {Γ : Ctx} {cs : List C} {vs : List Value}
theorem cInt_rel {k : IntKind} {n : Int} (h : cInt k cs = some n) (ha : All2 (cRel Γ) cs vs) : vs = [.int k n] ∧ inR k n := by
  unfold cInt at h
  split at h
  · split at h
    · cases h
      subst_vars
      cases ha with
      | cons h1 t => cases t; obtain ⟨rfl, hr⟩ := h1; exact ⟨rfl, hr⟩
    · cases h
  · cases h
theorem cBool_rel {b : Bool} (h : cBool cs = some b) (ha : All2 (cRel Γ) cs vs) : vs = [.bool b] := by
  unfold cBool at h
  split at h <;> cases h
  cases ha with
  | cons h1 t => cases t; cases h1; rfl
theorem cFlt_rel {k : FloatKind} {x : Nat} (h : cFlt k cs = some x) (ha : All2 (cRel Γ) cs vs) : ∃ b, vs = [.float k b] ∧ FRel k x b := by
  unfold cFlt at h
  split at h
  · split at h
    · cases h
      subst_vars
      cases ha with
      | cons h1 t => cases t; obtain ⟨b, rfl, hr⟩ := h1; exact ⟨b, rfl, hr⟩
    · cases h
  · cases h
theorem cStr_rel {s : ByteArray} (h : cStr cs = some s) (ha : All2 (cRel Γ) cs vs) : vs = [.string s] ∧ s.size ≤ maxLen := by
  unfold cStr at h
  split at h <;> cases h
  cases ha with
  | cons h1 t => cases t; obtain ⟨rfl, hr⟩ := h1; exact ⟨rfl, hr⟩
theorem cUnit_rel {u : Unit} (h : cUnit cs = some u) (ha : All2 (cRel Γ) cs vs) : vs = [] := by
  unfold cUnit at h
  split at h <;> cases h
  cases ha; rfl
theorem cSl_rel {s : Sl} (h : cSl cs = some s) (ha : All2 (cRel Γ) cs vs) : ∃ v, vs = [v] ∧ slRel Γ s v := by
  unfold cSl at h
  split at h <;> cases h
  cases ha with
  | cons h1 t => cases t; exact ⟨_, rfl, h1⟩
theorem viewOf_rel {e : Ty} {xs : List e.D} (h : viewOf e (cSl cs) = some xs) (ha : All2 (cRel Γ) cs vs) : ∃ v, vs = [v] ∧ Rep Γ.h Γ.S (.slice e) xs [v] := by
  unfold viewOf at h
  split at h
  · rename_i τ ys hs
    split at h
    · rename_i he
      subst he
      cases h
      obtain ⟨v, rfl, hr⟩ := cSl_rel hs ha
      exact ⟨v, rfl, hr⟩
    · cases h
  · rename_i hs
    cases h
    obtain ⟨v, rfl, base, rfl⟩ := cSl_rel hs ha
    exact ⟨_, rfl, by simp, base, 0, rfl, Nat.le_refl _, by simp, .inl rfl⟩
  · cases h
theorem cFn_rel {f : Nat} {u : Unit} (h : cFn f cs = some u) (ha : All2 (cRel Γ) cs vs) : vs = [.func (.func f) #[] #[]] := by
  unfold cFn at h
  split at h
  · split at h
    · subst_vars
      cases ha with
      | cons h1 t =>
        cases t
        obtain ⟨us, rfl, hu⟩ := h1
        have : us = #[] := by
          have := hu.length
          exact Array.eq_empty_of_size_eq_zero (by simpa using this.symm)
        rw [this]
    · cases h
  · cases h
theorem cPl_rel {p : Place} (h : cPl cs = some p) (ha : All2 (cRel Γ) cs vs) : ∃ v, vs = [v] ∧ plRel Γ p v := by
  unfold cPl at h
  split at h <;> cases h
  cases ha with
  | cons h1 t => cases t; exact ⟨_, rfl, h1⟩
theorem viewRef_rel {e : Ty} {x : e.D} (h : viewRef e (cPl cs) = some x) (ha : All2 (cRel Γ) cs vs) : Rep Γ.h Γ.S (.ref e) x vs := by
  unfold viewRef at h
  split at h
  · rename_i τ y hs
    split at h
    · rename_i he
      subst he
      cases h
      obtain ⟨v, rfl, hr⟩ := cPl_rel hs ha
      obtain ⟨c, o, arr, te, fz, rfl, h1, h2, h3, h4⟩ := hr
      exact ⟨c, o, arr, te, fz, rfl, h1, h2, h3, h4⟩
    · cases h
  · cases h
end scalars

section snap
variable {Γ : Ctx} {T : Nat → Prop}

theorem rowAt_some {loc : List Blk} {b : Nat} {e : Ty} {xs : List e.D} (h : rowAt loc b e = some xs) : ∃ pin, loc[b]? = some (.row pin e xs) := by
  unfold rowAt at h
  split at h
  · rename_i pin τ ys hb
    split at h
    · rename_i he
      subst he
      cases h
      exact ⟨pin, hb⟩
    · cases h
  · cases h

/-- A part of a slice that is read. -/
theorem RepSl.part {h : Heap} {S : Nat → Prop} {sz : Nat} {α : Type} {R : α → List Value → Prop} {xs : List α} {base : Option Addr} {cap : Nat} (off n : Nat) (hn : off + n ≤ xs.length)
    (r : RepSl h S sz R xs [.slice base xs.length cap]) {base' : Option Addr} {cap' : Nat} (hc : n ≤ cap' ∧ cap' ≤ maxLen)
    (hb : n = 0 ∨ ∃ c o, base = some ⟨c, o, none⟩ ∧ base' = some ⟨c, o + off * sz, none⟩) : RepSl h S sz R ((xs.drop off).take n) [.slice base' n cap'] := by
  obtain ⟨hl, base0, cap0, e, h1, h2, h3⟩ := r
  simp only [List.cons.injEq, Value.slice.injEq, and_true, true_and] at e
  obtain ⟨rfl, rfl⟩ := e
  have hlen : ((xs.drop off).take n).length = n := by simp; omega
  refine ⟨by omega, base', cap', by rw [hlen], by omega, hc.2, ?_⟩
  rcases hb with rfl | ⟨c, o, rfl, rfl⟩
  · exact .inl (by simp)
  · rcases h3 with rfl | ⟨c', off', arr, te, fz, eb, hs, hg, hb, hx⟩
    · left; simp
    · cases eb
      refine .inr ⟨c, _, arr, te, fz, rfl, hs, hg, ?_, fun i x hi => ?_⟩
      · rw [hlen]
        have : (off + n) * sz ≤ xs.length * sz := Nat.mul_le_mul_right _ hn
        rw [Nat.add_mul] at this
        omega
      · rw [List.getElem?_take] at hi
        split at hi
        · rw [List.getElem?_drop] at hi
          have := hx _ _ hi
          rw [Nat.add_mul] at this
          rw [Nat.add_assoc]
          exact this
        · cases hi

theorem slD_rel (hb : ∀ b k, Γ.loc[b]? = some k → blkRel Γ b k) (hF : ∀ b pin τ xs, Γ.loc[b]? = some (.row pin τ xs) → ∀ c, Γ.F b c → T c) (hS : ∀ c, Γ.S c → T c)
    {e : Ty} {s : Sl} {xs : List e.D} {v : Value} (h : slD Γ.loc e s = some xs) (hr : slRel Γ s v) : Rep Γ.h T (.slice e) xs [v] := by
  cases s with
  | nil =>
    cases h
    obtain ⟨base, rfl⟩ := hr
    exact ⟨by simp, base, 0, rfl, Nat.le_refl _, by simp, .inl rfl⟩
  | row b =>
    obtain ⟨pin, hl⟩ := rowAt_some h
    obtain ⟨rfl, _⟩ := hr
    obtain ⟨ho, _⟩ := hb b _ hl
    exact Own.rep _ _ _ (Γ.F b) T (hF b _ _ _ hl) hS ho
  | sub b off len =>
    simp only [slD] at h
    split at h
    · rename_i ys hy
      cases h
      obtain ⟨pin, hl⟩ := rowAt_some hy
      obtain ⟨pin', τ', xs', hl', hle, base, cap, rfl, h1, h2, h3⟩ := hr
      rw [hl] at hl'
      cases hl'
      obtain ⟨ho, base0, cap0, eH, h4⟩ := hb b _ hl
      have hrep := Own.rep _ _ _ (Γ.F b) T (hF b _ _ _ hl) hS ho
      rw [eH] at hrep
      refine RepSl.part off len hle hrep ⟨h1, h2⟩ ?_
      rcases h3 with h3 | h3
      · exact .inl h3
      · rcases h4 with h4 | h4
        · left
          obtain ⟨_, b1, c1, e1, h5, _⟩ := hrep
          simp only [List.cons.injEq, Value.slice.injEq, and_true, true_and] at e1
          omega
        · exact .inr ⟨Γ.m b, 0, h4, by rw [h3, Nat.zero_add]⟩
    · cases h
  | view τ ys =>
    simp only [slD] at h
    split at h
    · rename_i he
      subst he
      cases h
      exact Rep.mono hS (fun _ _ => rfl) (.slice τ) ys [v] hr
    · cases h
  | nest b i off τ ys =>
    simp only [slD] at h
    split at h
    · rename_i he
      subst he
      cases h
      obtain ⟨hr, _, pin, τ', xs', arr, te, hl, _⟩ := hr
      exact Rep.mono (fun c hc => hc.elim (hF b _ _ _ hl c) (hS c)) (fun _ _ => rfl) (.slice τ) ys [v] hr
    · cases h

theorem place_block (hb : ∀ b k, Γ.loc[b]? = some k → blkRel Γ b k) (hF : ∀ b k, Γ.loc[b]? = some k → k.alive = true → ∀ c, Γ.F b c → T c) (hS : ∀ c, Γ.S c → T c)
    {p : Place} {c off : Nat} (hp : plRel Γ p (.pointer (some ⟨c, off, none⟩))) : T c := by
  cases p with
  | box b o =>
    obtain ⟨e, cs', hl⟩ := hp
    obtain ⟨_, _, _, _, hm⟩ := hb b _ hl
    cases e
    exact hF b _ hl rfl _ hm
  | elem b i o =>
    obtain ⟨pin, τ', xs, hl, hi, e⟩ := hp
    obtain ⟨⟨_, b1, c1, e1, h5, h6, h7⟩, base, cap, eH, hbase⟩ := hb b _ hl
    cases e
    rw [eH] at e1
    simp only [List.cons.injEq, Value.slice.injEq, and_true, true_and] at e1
    obtain ⟨rfl, rfl⟩ := e1
    rcases h7 with h0 | ⟨c, arr', te', rfl, hFc, _⟩
    · omega
    · rcases hbase with h0 | h0
      · omega
      · have : c = Γ.m b := by simpa using h0
        rw [← this]
        exact hF b _ hl rfl _ hFc
  | view τ' x' o =>
    obtain ⟨c', o', arr', te', fz', e, hs', _⟩ := hp
    cases e
    exact hS _ hs'

theorem snapD_rel (hb : ∀ b k, Γ.loc[b]? = some k → blkRel Γ b k) (hF : ∀ b k, Γ.loc[b]? = some k → k.alive = true → ∀ c, Γ.F b c → T c) (hS : ∀ c, Γ.S c → T c) :
    (τ : Ty) → (cs : List C) → (x : τ.D) → (vs : List Value) → snapD Γ.loc τ cs = some x → All2 (cRel Γ) cs vs → Rep Γ.h T τ x vs
  | .int _, _, _, _, h, ha => cInt_rel h ha
  | .bool, _, _, _, h, ha => cBool_rel h ha
  | .flt _, _, _, _, h, ha => cFlt_rel h ha
  | .str, _, _, _, h, ha => cStr_rel h ha
  | .unit, _, _, _, h, ha => cUnit_rel h ha
  | .pair a b, cs, x, vs, h, ha => by
    simp only [snapD] at h
    split at h
    · rename_i y z hy hz
      cases h
      have h1 := snapD_rel hb hF hS a _ _ _ hy (ha.take a.size)
      have h2 := snapD_rel hb hF hS b _ _ _ hz (ha.drop a.size)
      exact ⟨_, _, (List.take_append_drop a.size vs).symm, h1, h2⟩
    · cases h
  | .slice e, cs, x, vs, h, ha => by
    simp only [snapD] at h
    split at h
    · rename_i s hs
      obtain ⟨v, rfl, hr⟩ := cSl_rel hs ha
      exact slD_rel hb (fun b pin τ xs hl => hF b _ hl rfl) hS h hr
    · cases h
  | .rslice e, cs, x, vs, h, ha => by
    simp only [snapD] at h
    split at h
    · rename_i s hs
      obtain ⟨v, rfl, hr⟩ := cSl_rel hs ha
      exact slD_rel (T := T) hb (fun b pin τ xs hl => hF b _ hl rfl) hS h hr
    · cases h
  | .ref e, cs, x, vs, h, ha => by
    simp only [snapD] at h
    split at h
    · rename_i p hp
      split at h
      · rename_i ds hl
        obtain ⟨v, rfl, hr⟩ := cPl_rel hp ha
        obtain ⟨c, off, arr, te, fz, rfl, hg, hle, hall⟩ := loadC_rel hb hl hr
        exact ⟨c, off, arr, te, fz, rfl, place_block hb hF hS hr, hg, hle, snapD_rel hb hF hS e _ _ _ h hall⟩
      · cases h
    · cases h
  | .fn f, _, _, _, h, ha => cFn_rel h ha
end snap

/-- What viewD takes is as it was: cells that refer to nothing of the call's own. -/
theorem viewD_rel {Γ : Ctx} : (τ : Ty) → (cs : List C) → (x : τ.D) → (vs : List Value) → viewD τ cs = some x → All2 (cRel Γ) cs vs → Rep Γ.h Γ.S τ x vs
  | .int _, _, _, _, h, ha => cInt_rel h ha
  | .bool, _, _, _, h, ha => cBool_rel h ha
  | .flt _, _, _, _, h, ha => cFlt_rel h ha
  | .str, _, _, _, h, ha => cStr_rel h ha
  | .unit, _, _, _, h, ha => cUnit_rel h ha
  | .pair a b, cs, x, vs, h, ha => by
    simp only [viewD] at h
    split at h
    · rename_i y z hy hz
      cases h
      exact ⟨_, _, (List.take_append_drop a.size vs).symm, viewD_rel a _ _ _ hy (ha.take a.size), viewD_rel b _ _ _ hz (ha.drop a.size)⟩
    · cases h
  | .slice e, cs, x, vs, h, ha => by
    obtain ⟨v, rfl, hr⟩ := viewOf_rel h ha
    exact hr
  | .rslice e, cs, x, vs, h, ha => by
    obtain ⟨v, rfl, hr⟩ := viewOf_rel h ha
    exact hr
  | .ref e, cs, x, vs, h, ha => viewRef_rel h ha
  | .fn f, _, _, _, h, ha => cFn_rel h ha

/-! ### Data that becomes rows; rows that are handed over -/
theorem getElem?_append_lt {α : Type} {l r : List α} {b : Nat} (h : b < l.length) : (l ++ r)[b]? = l[b]? := List.getElem?_append_left h

/-- A context whose list of blocks is longer. -/
theorem Moves.more {h : Heap} {S : Nat → Prop} {m m' : Nat → Nat} {H H' : Nat → Value} {F F' : Nat → Nat → Prop} {loc l : List Blk}
    (hm : ∀ b, b < loc.length → m' b = m b ∧ H' b = H b ∧ F' b = F b) : Moves ⟨h, S, m, H, F, loc⟩ ⟨h, S, m', H', F', loc ++ l⟩ [] [] := by
  have lt : ∀ b (k : Blk), loc[b]? = some k → b < loc.length := fun b k hk => (List.getElem?_eq_some_iff.1 hk).1
  refine ⟨fun _ h => h, fun _ _ => rfl, fun b cs _ hb => ⟨(hm b (lt b _ hb)).1, cs, ?_⟩, fun b pin τ xs _ hb => ⟨(hm b (lt b _ hb)).1, (hm b (lt b _ hb)).2.1, pin, xs, ?_, rfl⟩, fun b pin τ xs _ _ hb _ => ⟨fun c hc => ?_, fun _ _ => rfl⟩⟩
  · exact (getElem?_append_lt (lt b _ hb)).trans hb
  · exact (getElem?_append_lt (lt b _ hb)).trans hb
  · show F' b c
    rw [(hm b (lt b _ hb)).2.2]; exact hc

theorem blkRel.same {Γ Δ : Ctx} {b : Nat} {k : Blk} (M : Moves Γ Δ [] []) (hm : Δ.m b = Γ.m b ∧ Δ.H b = Γ.H b ∧ Δ.F b = Γ.F b) (hF : ∀ c, Γ.F b c → Δ.h[c]? = Γ.h[c]?) (h : blkRel Γ b k) : blkRel Δ b k := by
  cases k with
  | dead => trivial
  | box cs =>
    obtain ⟨arr, te, hg, ha, hf⟩ := h
    refine ⟨arr, te, ?_, ha.imp fun _ _ h => h.same M, ?_⟩
    · rw [hm.1]; exact (hF _ hf).trans hg
    · rw [hm.1, hm.2.2]; exact hf
  | row pin τ xs =>
    obtain ⟨ho, base, cap, e, hb⟩ := h
    refine ⟨?_, base, cap, hm.2.1.trans e, ?_⟩
    · rw [hm.2.1, hm.2.2]
      exact Own.mono M.S M.hS _ _ _ _ _ (fun _ h => h) hF ho
    · rw [hm.1]; exact hb

theorem imp_unp : (τ : Ty) → (n : Nat) → (x : τ.D) → (j : Nat) → (σ : Ty) → (xs : List σ.D) → (imp false n τ x).2[j]? = some (.row true σ xs) → False
  | .int _, _, _, j, σ, xs, h => by simp [imp] at h
  | .bool, _, _, j, σ, xs, h => by simp [imp] at h
  | .flt _, _, _, j, σ, xs, h => by simp [imp] at h
  | .str, _, _, j, σ, xs, h => by simp [imp] at h
  | .unit, _, _, j, σ, xs, h => by simp [imp] at h
  | .rslice _, _, _, j, σ, xs, h => by simp [imp] at h
  | .ref _, _, _, j, σ, xs, h => by simp [imp] at h
  | .fn _, _, _, j, σ, xs, h => by simp [imp] at h
  | .slice e, n, ys, j, σ, xs, h => by
    cases j with
    | zero => simp [imp] at h
    | succ j => simp [imp] at h
  | .pair a b, n, x, j, σ, xs, h => by
    simp only [imp] at h
    rcases Nat.lt_or_ge j (imp false n a x.1).2.length with hlt | hge
    · rw [List.getElem?_append_left hlt] at h
      exact imp_unp a _ _ _ _ _ h
    · rw [List.getElem?_append_right hge] at h
      exact imp_unp b _ _ _ _ _ h

theorem imp_spec {h : Heap} {S : Nat → Prop} (pin : Bool) : (τ : Ty) → (x : τ.D) → (cs : List Value) → (G : Nat → Prop) → (pre : List Blk) → (m : Nat → Nat) → (H : Nat → Value) → (F : Nat → Nat → Prop) →
    Own h S τ x cs G → ∃ m' H' F', (∀ b, b < pre.length → m' b = m b ∧ H' b = H b ∧ F' b = F b) ∧
      All2 (cRel ⟨h, S, m', H', F', pre ++ (imp pin pre.length τ x).2⟩) (imp pin pre.length τ x).1 cs ∧
      (∀ j k, (imp pin pre.length τ x).2[j]? = some k → blkRel ⟨h, S, m', H', F', pre ++ (imp pin pre.length τ x).2⟩ (pre.length + j) k ∧ ∀ c, F' (pre.length + j) c → G c) ∧
      ∀ j j', j ≠ j' → j < (imp pin pre.length τ x).2.length → j' < (imp pin pre.length τ x).2.length → ∀ c, F' (pre.length + j) c → ¬ F' (pre.length + j') c
  | .int _, x, cs, G, pre, m, H, F, r => by
    obtain ⟨rfl, hr⟩ := r
    exact ⟨m, H, F, fun _ _ => ⟨rfl, rfl, rfl⟩, .cons ⟨rfl, hr⟩ .nil, fun j k hj => by simp [imp] at hj, fun j j' _ hj => by simp [imp] at hj⟩
  | .bool, x, cs, G, pre, m, H, F, r => by
    cases r
    exact ⟨m, H, F, fun _ _ => ⟨rfl, rfl, rfl⟩, .cons rfl .nil, fun j k hj => by simp [imp] at hj, fun j j' _ hj => by simp [imp] at hj⟩
  | .flt _, x, cs, G, pre, m, H, F, r => by
    obtain ⟨b, rfl, hr⟩ := r
    exact ⟨m, H, F, fun _ _ => ⟨rfl, rfl, rfl⟩, .cons ⟨b, rfl, hr⟩ .nil, fun j k hj => by simp [imp] at hj, fun j j' _ hj => by simp [imp] at hj⟩
  | .str, x, cs, G, pre, m, H, F, r => by
    obtain ⟨rfl, hr⟩ := r
    exact ⟨m, H, F, fun _ _ => ⟨rfl, rfl, rfl⟩, .cons ⟨rfl, hr⟩ .nil, fun j k hj => by simp [imp] at hj, fun j j' _ hj => by simp [imp] at hj⟩
  | .unit, x, cs, G, pre, m, H, F, r => by
    cases r
    exact ⟨m, H, F, fun _ _ => ⟨rfl, rfl, rfl⟩, .nil, fun j k hj => by simp [imp] at hj, fun j j' _ hj => by simp [imp] at hj⟩
  | .rslice e, x, cs, G, pre, m, H, F, r => by
    have r' := r
    obtain ⟨_, base, cap, rfl, _⟩ := r'
    exact ⟨m, H, F, fun _ _ => ⟨rfl, rfl, rfl⟩, .cons r .nil, fun j k hj => by simp [imp] at hj, fun j j' _ hj => by simp [imp] at hj⟩
  | .ref e, x, cs, G, pre, m, H, F, r => by
    obtain ⟨c, o, arr, te, fz, rfl, hs, hg, hb, hr⟩ := r
    exact ⟨m, H, F, fun _ _ => ⟨rfl, rfl, rfl⟩, .cons ⟨c, o, arr, te, fz, rfl, hs, hg, hb, hr⟩ .nil, fun j k hj => by simp [imp] at hj, fun j j' _ hj => by simp [imp] at hj⟩
  | .fn f, x, cs, G, pre, m, H, F, r => by
    have e : cs = _ := r
    rw [e]
    exact ⟨m, H, F, fun _ _ => ⟨rfl, rfl, rfl⟩, .cons ⟨#[], rfl, .nil⟩ .nil, fun j k hj => by simp [imp] at hj, fun j j' _ hj => by simp [imp] at hj⟩
  | .slice e, xs, cs, G, pre, m, H, F, r => by
    have r' := r
    obtain ⟨hl, base, cap, rfl, h1, h2, h3⟩ := r'
    have hbase : ∃ c, cap = 0 ∨ base = some ⟨c, 0, none⟩ := by
      rcases h3 with h3 | ⟨c, _, _, h3, _⟩
      · exact ⟨0, .inl h3⟩
      · exact ⟨c, .inr h3⟩
    obtain ⟨c0, hc0⟩ := hbase
    have hn : (pre ++ [Blk.row pin e xs])[pre.length]? = some (.row pin e xs) := by simp
    refine ⟨fun b => if b = pre.length then c0 else m b, fun b => if b = pre.length then .slice base (List.length xs) cap else H b, fun b => if b = pre.length then G else F b,
      fun b hb => by simp [Nat.ne_of_lt hb], .cons ⟨by simp, pin, e, xs, hn⟩ .nil, fun j k hj => ?_, fun j j' hne hj hj' => ?_⟩
    · cases j with
      | zero =>
        simp [imp] at hj
        subst hj
        simp only [Nat.add_zero]
        refine ⟨⟨?_, base, cap, by simp, by simpa using hc0⟩, fun c hc => by simpa using hc⟩
        simpa using r
      | succ j => simp [imp] at hj
    · simp [imp] at hj hj'
      omega
  | .pair a b, x, cs, G, pre, m, H, F, r => by
    obtain ⟨c1, c2, F1, F2, rfl, r1, r2, s1, s2, d⟩ := r
    obtain ⟨m1, H1, G1, k1, a1, b1, d1⟩ := imp_spec pin a x.1 c1 F1 pre m H F r1
    obtain ⟨m2, H2, G2, k2, a2, b2, d2⟩ := imp_spec pin b x.2 c2 F2 (pre ++ (imp pin pre.length a x.1).2) m1 H1 G1 r2
    have hl : (pre ++ (imp pin pre.length a x.1).2).length = pre.length + (imp pin pre.length a x.1).2.length := List.length_append
    rw [hl] at k2 a2 b2 d2
    have M : Moves ⟨h, S, m1, H1, G1, pre ++ (imp pin pre.length a x.1).2⟩ ⟨h, S, m2, H2, G2, pre ++ (imp pin pre.length a x.1).2 ++ (imp pin (pre.length + (imp pin pre.length a x.1).2.length) b x.2).2⟩ [] [] :=
      Moves.more fun b hb => k2 b (by rwa [hl] at hb)
    refine ⟨m2, H2, G2, fun b hb => ?_, ?_, ?_, ?_⟩
    · obtain ⟨e1, e2, e3⟩ := k2 b (by omega)
      obtain ⟨f1, f2, f3⟩ := k1 b hb
      exact ⟨e1.trans f1, e2.trans f2, e3.trans f3⟩
    · simp only [imp]
      rw [← List.append_assoc]
      exact (a1.imp fun _ _ h => h.same M).append a2
    · intro j k hj
      simp only [imp] at hj ⊢
      rw [← List.append_assoc]
      rcases Nat.lt_or_ge j (imp pin pre.length a x.1).2.length with hlt | hge
      · rw [getElem?_append_lt hlt] at hj
        obtain ⟨hb, hF⟩ := b1 j k hj
        have hk2 := k2 (pre.length + j) (by omega)
        exact ⟨hb.same M hk2 (fun _ _ => rfl), fun c hc => s1 c (hF c (by rw [← hk2.2.2]; exact hc))⟩
      · rw [List.getElem?_append_right hge] at hj
        obtain ⟨hb, hF⟩ := b2 _ k hj
        have e : pre.length + (imp pin pre.length a x.1).2.length + (j - (imp pin pre.length a x.1).2.length) = pre.length + j := by omega
        rw [e] at hb hF
        exact ⟨hb, fun c hc => s2 c (hF c hc)⟩
    · intro j j' hne hj hj' c
      simp only [imp, List.length_append] at hj hj'
      rcases Nat.lt_or_ge j (imp pin pre.length a x.1).2.length with hlt | hge <;> rcases Nat.lt_or_ge j' (imp pin pre.length a x.1).2.length with hlt' | hge'
      · rw [(k2 (pre.length + j) (by omega)).2.2, (k2 (pre.length + j') (by omega)).2.2]
        exact d1 j j' hne hlt hlt' c
      · intro hc hc'
        rw [(k2 (pre.length + j) (by omega)).2.2] at hc
        obtain ⟨k, hk⟩ : ∃ k, (imp pin pre.length a x.1).2[j]? = some k := ⟨_, List.getElem?_eq_getElem hlt⟩
        obtain ⟨k', hk'⟩ : ∃ k, (imp pin (pre.length + (imp pin pre.length a x.1).2.length) b x.2).2[j' - (imp pin pre.length a x.1).2.length]? = some k := ⟨_, List.getElem?_eq_getElem (by omega)⟩
        have e : pre.length + (imp pin pre.length a x.1).2.length + (j' - (imp pin pre.length a x.1).2.length) = pre.length + j' := by omega
        refine d c ((b1 j k hk).2 c hc) ((b2 _ k' hk').2 c ?_)
        rw [e]; exact hc'
      · intro hc hc'
        rw [(k2 (pre.length + j') (by omega)).2.2] at hc'
        obtain ⟨k, hk⟩ : ∃ k, (imp pin pre.length a x.1).2[j']? = some k := ⟨_, List.getElem?_eq_getElem hlt'⟩
        obtain ⟨k', hk'⟩ : ∃ k, (imp pin (pre.length + (imp pin pre.length a x.1).2.length) b x.2).2[j - (imp pin pre.length a x.1).2.length]? = some k := ⟨_, List.getElem?_eq_getElem (by omega)⟩
        have e : pre.length + (imp pin pre.length a x.1).2.length + (j - (imp pin pre.length a x.1).2.length) = pre.length + j := by omega
        refine d c ((b1 j' k hk).2 c hc') ((b2 _ k' hk').2 c ?_)
        rw [e]; exact hc
      · have := d2 (j - (imp pin pre.length a x.1).2.length) (j' - (imp pin pre.length a x.1).2.length) (by omega) (by omega) (by omega) c
        have e : pre.length + (imp pin pre.length a x.1).2.length + (j - (imp pin pre.length a x.1).2.length) = pre.length + j := by omega
        have e' : pre.length + (imp pin pre.length a x.1).2.length + (j' - (imp pin pre.length a x.1).2.length) = pre.length + j' := by omega
        rwa [e, e'] at this

theorem withNil_some {α : Type} {o : Option α} {x : α} {l : List Nat} (h : withNil o = some (x, l)) : o = some x ∧ l = [] := by
  cases o with
  | none => cases h
  | some y => cases h; exact ⟨rfl, rfl⟩

/-- The blocks of some rows. -/
def rowsF (F : Nat → Nat → Prop) (l : List Nat) : Nat → Prop := fun c => ∃ b, b ∈ l ∧ F b c

section give
variable {Γ : Ctx}

theorem giveRow_some {loc : List Blk} {e : Ty} {b : Nat} {xs : List e.D} {l : List Nat} (h : giveRow loc e b = some (xs, l)) : loc[b]? = some (.row false e xs) ∧ l = [b] := by
  unfold giveRow at h
  split at h
  · rename_i pin τ ys hb
    split at h
    · rename_i he
      subst he
      cases pin
      · cases h
        exact ⟨hb, rfl⟩
      · cases h
    · cases h
  · cases h

theorem lendRow_some {loc : List Blk} {e : Ty} {b : Nat} {xs : List e.D} {l : List Nat} (h : lendRow loc e b = some (xs, l)) : (∃ pin, loc[b]? = some (.row pin e xs)) ∧ l = [b] := by
  unfold lendRow at h
  split at h
  · rename_i pin τ ys hb
    split at h
    · rename_i he
      subst he
      cases h
      exact ⟨⟨pin, hb⟩, rfl⟩
    · cases h
  · cases h

theorem row_own (hb : ∀ b k, Γ.loc[b]? = some k → blkRel Γ b k) {b : Nat} {pin : Bool} {e : Ty} {xs : List e.D} {v : Value} (hl : Γ.loc[b]? = some (.row pin e xs)) (hr : slRel Γ (.row b) v) :
    Own Γ.h Γ.S (.slice e) xs [v] (rowsF Γ.F [b]) := by
  obtain ⟨rfl, _⟩ := hr
  obtain ⟨ho, _⟩ := hb b _ hl
  exact Own.mono (fun _ h => h) (fun _ _ => rfl) _ _ _ _ _ (fun c hc => ⟨b, by simp, hc⟩) (fun _ _ => rfl) ho

theorem ownD_rel (hb : ∀ b k, Γ.loc[b]? = some k → blkRel Γ b k)
    (hd : ∀ b b' k k', Γ.loc[b]? = some k → Γ.loc[b']? = some k' → k.alive = true → k'.alive = true → b ≠ b' → ∀ c, Γ.F b c → ¬ Γ.F b' c) :
    (τ : Ty) → (cs : List C) → (x : τ.D) → (l : List Nat) → (vs : List Value) → ownD Γ.loc τ cs = some (x, l) → l.Nodup → All2 (cRel Γ) cs vs →
      Own Γ.h Γ.S τ x vs (rowsF Γ.F l) ∧ ∀ b, b ∈ l → ∃ τ xs, Γ.loc[b]? = some (.row false τ xs)
  | .int _, _, _, _, _, h, _, ha => by obtain ⟨h2, rfl⟩ := withNil_some h; exact ⟨cInt_rel h2 ha, fun b hb => by cases hb⟩
  | .bool, _, _, _, _, h, _, ha => by obtain ⟨h2, rfl⟩ := withNil_some h; exact ⟨cBool_rel h2 ha, fun b hb => by cases hb⟩
  | .flt _, _, _, _, _, h, _, ha => by obtain ⟨h2, rfl⟩ := withNil_some h; exact ⟨cFlt_rel h2 ha, fun b hb => by cases hb⟩
  | .str, _, _, _, _, h, _, ha => by obtain ⟨h2, rfl⟩ := withNil_some h; exact ⟨cStr_rel h2 ha, fun b hb => by cases hb⟩
  | .unit, _, _, _, _, h, _, ha => by obtain ⟨h2, rfl⟩ := withNil_some h; exact ⟨cUnit_rel h2 ha, fun b hb => by cases hb⟩
  | .rslice e, _, _, _, _, h, _, ha => by
    obtain ⟨h2, rfl⟩ := withNil_some h
    obtain ⟨v, rfl, hr⟩ := viewOf_rel h2 ha
    exact ⟨hr, fun b hb => by cases hb⟩
  | .ref e, _, _, _, _, h, _, ha => by obtain ⟨h2, rfl⟩ := withNil_some h; exact ⟨viewRef_rel h2 ha, fun b hb => by cases hb⟩
  | .fn _, _, _, _, _, h, _, ha => by obtain ⟨h2, rfl⟩ := withNil_some h; exact ⟨cFn_rel h2 ha, fun b hb => by cases hb⟩
  | .slice e, cs, x, l, vs, h, _, ha => by
    simp only [ownD] at h
    unfold giveSl at h
    split at h
    · rename_i hs
      cases h
      obtain ⟨v, rfl, hr⟩ := cSl_rel hs ha
      obtain ⟨base, rfl⟩ := hr
      exact ⟨⟨by simp, base, 0, rfl, Nat.le_refl _, by simp, .inl rfl⟩, fun b hb => by cases hb⟩
    · rename_i b hs
      obtain ⟨v, rfl, hr⟩ := cSl_rel hs ha
      obtain ⟨hl, rfl⟩ := giveRow_some h
      exact ⟨row_own hb hl hr, fun b' hb' => by simp at hb'; subst hb'; exact ⟨e, x, hl⟩⟩
    · cases h
  | .pair a b, cs, x, l, vs, h, hn, ha => by
    simp only [ownD] at h
    split at h
    · rename_i y l1 z l2 hy hz
      cases h
      rw [List.nodup_append] at hn
      obtain ⟨o1, f1⟩ := ownD_rel hb hd a _ _ _ _ hy hn.1 (ha.take a.size)
      obtain ⟨o2, f2⟩ := ownD_rel hb hd b _ _ _ _ hz hn.2.1 (ha.drop a.size)
      refine ⟨⟨_, _, rowsF Γ.F l1, rowsF Γ.F l2, (List.take_append_drop a.size vs).symm, o1, o2, fun c ⟨b, h1, h2⟩ => ⟨b, by simp [h1], h2⟩, fun c ⟨b, h1, h2⟩ => ⟨b, by simp [h1], h2⟩, ?_⟩, ?_⟩
      · rintro c ⟨b1, h1, h2⟩ ⟨b2, h3, h4⟩
        obtain ⟨_, _, e1⟩ := f1 b1 h1
        obtain ⟨_, _, e2⟩ := f2 b2 h3
        exact hd b1 b2 _ _ e1 e2 rfl rfl (hn.2.2 b1 h1 b2 h3) c h2 h4
      · intro b hb
        rcases List.mem_append.1 hb with hb | hb
        · exact f1 b hb
        · exact f2 b hb
    · cases h

end give

theorem Own.noR {h : Heap} {S S' : Nat → Prop} : (τ : Ty) → (x : τ.D) → (cs : List Value) → (F : Nat → Prop) → noR τ = true → Own h S τ x cs F → Own h S' τ x cs F
  | .int _, _, _, _, _, r => r
  | .bool, _, _, _, _, r => r
  | .flt _, _, _, _, _, r => r
  | .str, _, _, _, _, r => r
  | .unit, _, _, _, _, r => r
  | .pair a b, x, cs, F, hn, r => by
    simp only [Fw.noR, Bool.and_eq_true] at hn
    obtain ⟨c1, c2, F1, F2, rfl, r1, r2, s⟩ := r
    exact ⟨c1, c2, F1, F2, rfl, Own.noR a _ _ F1 hn.1 r1, Own.noR b _ _ F2 hn.2 r2, s⟩
  | .slice e, xs, cs, F, hn, r => by
    obtain ⟨hl, base, cap, rfl, h1, h2, h3⟩ := r
    refine ⟨hl, base, cap, rfl, h1, h2, h3.imp id ?_⟩
    rintro ⟨c, arr, te, rfl, hs, hg, hb, G, g1, g2, hx⟩
    exact ⟨c, arr, te, rfl, hs, hg, hb, G, g1, g2, fun i x hi => Own.noR e _ _ (G i) hn (hx i x hi)⟩
  | .rslice e, xs, cs, F, hn, r => by cases hn
  | .ref e, x, cs, F, hn, r => by cases hn
  | .fn _, _, _, _, _, r => r

theorem nodupB_iff (l : List Nat) : nodupB l = true ↔ l.Nodup := by
  induction l with
  | nil => simp [nodupB]
  | cons x r ih => simp [nodupB, ih, memB_false]

end Go.Fw
