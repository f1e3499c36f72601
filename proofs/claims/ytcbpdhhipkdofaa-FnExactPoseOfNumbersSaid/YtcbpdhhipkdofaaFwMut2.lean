/- What a call is lent, and what it lays back. No condition. -/
import Derived.Test.YtcbpdhhipkdofaaFwMut
namespace Go.Fw

/-- A slice inside data: it may be handed out and laid back. -/
theorem Own.lens {h : Heap} {S : Nat → Prop} {e : Ty} {ys : List e.D} : (τ : Ty) → (x : τ.D) → (cs : List Value) → (G : Nat → Prop) → (off : Nat) → Own h S τ x cs G → getSl e τ x off = some ys →
    ∃ v G1, cs[off]? = some v ∧ Own h S (.slice e) ys [v] G1 ∧ (∀ c, G1 c → G c) ∧ ∀ (h' : Heap) (zs : List e.D) (F1 : Nat → Prop), Own h' S (.slice e) zs [v] F1 → (∀ c, S c → h'[c]? = h[c]?) → (∀ c, G c → ¬ G1 c → h'[c]? = h[c]?) →
      (∀ c, F1 c → ¬ (G c ∧ ¬ G1 c)) → ∃ y, putSl e zs τ x off = some y ∧ Own h' S τ y cs (fun c => (G c ∧ ¬ G1 c) ∨ F1 c)
  | .int _, _, _, _, _, _, hg => by cases hg
  | .bool, _, _, _, _, _, hg => by cases hg
  | .flt _, _, _, _, _, _, hg => by cases hg
  | .str, _, _, _, _, _, hg => by cases hg
  | .unit, _, _, _, _, _, hg => by cases hg
  | .rslice _, _, _, _, _, _, hg => by cases hg
  | .ref _, _, _, _, _, _, hg => by cases hg
  | .fn _, _, _, _, _, _, hg => by cases hg
  | .slice τ, x, cs, G, off, r, hg => by
    simp only [getSl] at hg
    obtain ⟨h0, hg⟩ := bif_some hg
    have h0 := Nat.eq_of_beq_eq_true h0
    subst h0
    split at hg
    · rename_i he
      subst he
      cases hg
      have r' := r
      obtain ⟨_, base, cap, rfl, _⟩ := r'
      refine ⟨_, G, rfl, r, fun _ h => h, fun h' zs F1 ho _ _ _ => ⟨zs, ?_, ?_⟩⟩
      · simp [putSl, cstL]
      · exact Own.mono (fun _ h => h) (fun _ _ => rfl) _ _ _ _ _ (fun c hc => .inr hc) (fun _ _ => rfl) ho
    · cases hg
  | .pair a b, x, cs, G, off, r, hg => by
    simp only [getSl] at hg
    obtain ⟨c1, c2, F1, F2, rfl, r1, r2, s1, s2, d⟩ := r
    have l1 := Own.length _ _ _ _ r1
    cases hb : Nat.blt off a.size
    · rw [hb] at hg
      simp only [cond_false] at hg
      have hge : a.size ≤ off := by
        rcases Nat.lt_or_ge off a.size with h1 | h1
        · have : Nat.blt off a.size = true := by simpa [Nat.blt_eq] using h1
          rw [this] at hb; cases hb
        · exact h1
      obtain ⟨v, G1, hv, ho, hs, hback⟩ := Own.lens b x.2 c2 F2 (off - a.size) r2 hg
      refine ⟨v, G1, ?_, ho, fun c hc => s2 c (hs c hc), fun h' zs K ho' hS hG hK => ?_⟩
      · rw [List.getElem?_append_right (by omega), l1]; exact hv
      · obtain ⟨y, hy, hown⟩ := hback h' zs K ho' hS (fun c hc hn => hG c (s2 c hc) hn) (fun c hc hn => hK c hc ⟨s2 c hn.1, hn.2⟩)
        refine ⟨(x.1, y), ?_, c1, c2, F1, _, rfl, Own.mono (fun _ h => h) hS _ _ _ _ _ (fun _ h => h) (fun c hc => hG c (s1 c hc) fun hn => d c hc (hs c hn)) r1, hown, fun c hc => .inl ⟨s1 c hc, fun hn => d c hc (hs c hn)⟩, ?_, ?_⟩
        · simp only [putSl, hb, cond_false, hy]
        · rintro c (⟨h1, h2⟩ | h1)
          · exact .inl ⟨s2 c h1, h2⟩
          · exact .inr h1
        · rintro c hc (⟨h1, h2⟩ | h1)
          · exact d c hc h1
          · exact hK c h1 ⟨s1 c hc, fun hn => d c hc (hs c hn)⟩
    · rw [hb] at hg
      simp only [cond_true] at hg
      have hlt : off < a.size := by simpa [Nat.blt_eq] using hb
      obtain ⟨v, G1, hv, ho, hs, hback⟩ := Own.lens a x.1 c1 F1 off r1 hg
      refine ⟨v, G1, ?_, ho, fun c hc => s1 c (hs c hc), fun h' zs K ho' hS hG hK => ?_⟩
      · rw [List.getElem?_append_left (by omega)]; exact hv
      · obtain ⟨y, hy, hown⟩ := hback h' zs K ho' hS (fun c hc hn => hG c (s1 c hc) hn) (fun c hc hn => hK c hc ⟨s1 c hn.1, hn.2⟩)
        refine ⟨(y, x.2), ?_, c1, c2, _, F2, rfl, hown, Own.mono (fun _ h => h) hS _ _ _ _ _ (fun _ h => h) (fun c hc => hG c (s2 c hc) fun hn => d c (hs c hn) hc) r2, ?_, fun c hc => .inl ⟨s2 c hc, fun hn => d c (hs c hn) hc⟩, ?_⟩
        · simp only [putSl, hb, cond_true, hy]
        · rintro c (⟨h1, h2⟩ | h1)
          · exact .inl ⟨s1 c h1, h2⟩
          · exact .inr h1
        · rintro c (⟨h1, h2⟩ | h1) hc
          · exact d c h1 hc
          · exact hK c h1 ⟨s2 c hc, fun hn => d c (hs c hn) hc⟩

/-- A slice inside an element of a row. -/
theorem row_lens {Γ : Ctx} (hb : ∀ b k, Γ.loc[b]? = some k → blkRel Γ b k) {b i off : Nat} {pin : Bool} {τ τ0 e : Ty} {xs : List τ.D} {zs0 : List τ0.D} {ys : List e.D} {v : Value}
    (hl : Γ.loc[b]? = some (.row pin τ xs)) (hn : slRel Γ (.nest b i off τ0 zs0) v) (hg : getSl e τ (xs.getD i τ.zero) off = some ys) :
    ∃ G1, Own Γ.h Γ.S (.slice e) ys [v] G1 ∧ (∀ c, G1 c → Γ.F b c) ∧ ∀ (h' : Heap) (us : List e.D) (F1 : Nat → Prop), Own h' Γ.S (.slice e) us [v] F1 → (∀ c, Γ.S c → h'[c]? = Γ.h[c]?) →
      (∀ c, Γ.F b c → ¬ G1 c → h'[c]? = Γ.h[c]?) → (∀ c, F1 c → ¬ (Γ.F b c ∧ ¬ G1 c)) → ∃ y, putSl e us τ (xs.getD i τ.zero) off = some y ∧ Own h' Γ.S (.slice τ) (xs.set i y) [Γ.H b] (fun c => (Γ.F b c ∧ ¬ G1 c) ∨ F1 c) := by
  obtain ⟨_, hFm, pin', τ', xs', arr, te, hl', _, hi, hga, hv⟩ := hn
  rw [hl] at hl'
  cases hl'
  obtain ⟨⟨hml, base, cap, eH, hlc, hcm, h3⟩, base', cap', eH', hbase⟩ := hb b _ hl
  rw [eH'] at eH
  simp only [List.cons.injEq, Value.slice.injEq, and_true, true_and] at eH
  obtain ⟨rfl, rfl⟩ := eH
  rcases h3 with h3 | ⟨c, arr', te', rfl, hF, hg', hsz, Gs, g1, g2, hx⟩
  · omega
  · have hc : c = Γ.m b := by
      rcases hbase with h0 | h0
      · omega
      · simpa using h0
    subst hc
    rw [hga] at hg'
    simp only [Option.some.injEq, Obj.cells.injEq, and_true] at hg'
    obtain ⟨rfl, rfl⟩ := hg'
    have hgd : xs.getD i τ.zero = xs[i] := by simp [hi]
    rw [hgd] at hg
    have hxi := hx i xs[i] (List.getElem?_eq_getElem hi)
    obtain ⟨v', G1, hv', ho, hs, hback⟩ := Own.lens τ xs[i] _ (Gs i) off hxi hg
    have ev : v' = v := by
      unfold win at hv'
      rw [List.getElem?_take] at hv'
      split at hv'
      · rw [List.getElem?_drop, hv] at hv'
        simpa using hv'.symm
      · cases hv'
    subst ev
    refine ⟨G1, ho, fun c hc => (g2 i c (hs c hc)).1, fun h' us K ho' hS hG hK => ?_⟩
    obtain ⟨y, hy, hown⟩ := hback h' us K ho' hS (fun c hc hn => hG c (g2 i c hc).1 hn) (fun c hc hn => hK c hc ⟨(g2 i c hn.1).1, hn.2⟩)
    have hmn : ¬ G1 (Γ.m b) := fun hn => (g2 i _ (hs _ hn)).2 rfl
    refine ⟨y, by rw [hgd]; exact hy, ?_⟩
    rw [eH']
    refine ⟨by rw [List.length_set]; exact hml, _, cap', by rw [List.length_set], by rw [List.length_set]; exact hlc, hcm, .inr ⟨Γ.m b, arr, te, rfl, .inl ⟨hF, hmn⟩, (hG _ hF hmn).trans hga, hsz, fun j => if j = i then (fun c => (Gs i c ∧ ¬ G1 c) ∨ K c) else Gs j, ?_, ?_, ?_⟩⟩
    · intro j j' c hj hj'
      by_cases e1 : j = i <;> by_cases e2 : j' = i
      · omega
      · simp only [e1, e2, if_true, if_false] at hj hj'
        rcases hj with hj | hj
        · exact e1.trans (g1 i j' c hj.1 hj')
        · exact absurd ⟨(g2 j' c hj').1, fun hn => e2 (g1 j' i c hj' (hs c hn))⟩ (hK c hj)
      · simp only [e1, e2, if_true, if_false] at hj hj'
        rcases hj' with hj' | hj'
        · exact (g1 j i c hj hj'.1).trans e2.symm
        · exact absurd ⟨(g2 j c hj).1, fun hn => e1 (g1 j i c hj (hs c hn))⟩ (hK c hj')
      · simp only [e1, e2, if_false] at hj hj'
        exact g1 j j' c hj hj'
    · intro j c hj
      by_cases e1 : j = i
      · simp only [e1, if_true] at hj
        rcases hj with hj | hj
        · exact ⟨.inl ⟨(g2 i c hj.1).1, hj.2⟩, (g2 i c hj.1).2⟩
        · exact ⟨.inr hj, fun e => hK c hj (e ▸ ⟨hF, hmn⟩)⟩
      · simp only [e1, if_false] at hj
        exact ⟨.inl ⟨(g2 j c hj).1, fun hn => e1 (g1 j i c hj (hs c hn))⟩, (g2 j c hj).2⟩
    · intro j z hz
      by_cases e1 : j = i
      · subst e1
        rw [List.getElem?_set_self hi] at hz
        cases hz
        simp only [if_true]
        exact hown
      · rw [List.getElem?_set_ne (Ne.symm e1)] at hz
        simp only [e1, if_false]
        exact Own.mono (fun _ h => h) hS _ _ _ _ _ (fun _ h => h) (fun c hc => hG c (g2 j c hc).1 fun hn => e1 (g1 j i c hc (hs c hn))) (hx j z hz)

/-- The rows of one argument, behind the call. -/
structure Back (Γ : Ctx) (h' : Heap) (loc0 loc1 : List Blk) (l : List Nat) (F0 F1 : Nat → Prop) (Fn : Nat → Nat → Prop) : Prop where
  sub : ∀ b, b ∈ l → ∀ c, Fn b c → F1 c ∨ (Γ.F b c ∧ ¬ F0 c)
  disj : ∀ b b', b ∈ l → b' ∈ l → b ≠ b' → ∀ c, Fn b c → ¬ Fn b' c
  row : ∀ b, b ∈ l → ∃ pin τ xs xs', Γ.loc[b]? = some (.row pin τ xs) ∧ loc1[b]? = some (.row pin τ xs') ∧ xs'.length = xs.length ∧ Own h' Γ.S (.slice τ) xs' [Γ.H b] (Fn b)
  other : ∀ b, b ∉ l → loc1[b]? = loc0[b]?

/-- How the machine's memory is behind the call: Ft is what the call was lent. -/
structure Behind (Γ : Ctx) (h' : Heap) (Ft : Nat → Prop) : Prop where
  S : ∀ c, Γ.S c → h'[c]? = Γ.h[c]?
  heap : ∀ c, c < Γ.h.size → ¬ Ft c → h'[c]? = Γ.h[c]?

/-- An argument that is lent, and how it is laid back. -/
structure Lent (Γ : Ctx) (τ : Ty) (cs : List C) (x : τ.D) (l : List Nat) (vs : List Value) (F0 : Nat → Prop) : Prop where
  own : Own Γ.h Γ.S τ x vs F0
  sub : ∀ c, F0 c → rowsF Γ.F l c
  rows : ∀ b, b ∈ l → ∃ pin τ xs, Γ.loc[b]? = some (.row pin τ xs)
  back : ∀ (h' : Heap) (Ft : Nat → Prop) (y : τ.D) (F1 : Nat → Prop) (loc0 : List Blk), Behind Γ h' Ft → (∀ c, F0 c → Ft c) → (∀ c, rowsF Γ.F l c → ¬ F0 c → ¬ Ft c) → (∀ c, F1 c → Ft c ∨ Γ.h.size ≤ c) →
    Own h' Γ.S τ y vs F1 → (∀ b, b ∈ l → loc0[b]? = Γ.loc[b]?) → ∃ Fn, Back Γ h' loc0 (backD τ y cs loc0) l F0 F1 Fn

theorem Back.nil (Γ : Ctx) (h' : Heap) (loc0 : List Blk) (F0 F1 : Nat → Prop) : Back Γ h' loc0 loc0 [] F0 F1 (fun _ _ => False) :=
  ⟨fun _ hb => (nomatch hb), fun _ _ hb => (nomatch hb), fun _ hb => (nomatch hb), fun _ _ => rfl⟩

section
variable {Γ : Ctx} (hb : ∀ b k, Γ.loc[b]? = some k → blkRel Γ b k) (hd : ∀ b b' k k', Γ.loc[b]? = some k → Γ.loc[b']? = some k' → k.alive = true → k'.alive = true → b ≠ b' → ∀ c, Γ.F b c → ¬ Γ.F b' c)
  (hlt : ∀ b k, Γ.loc[b]? = some k → k.alive = true → ∀ c, Γ.F b c → c < Γ.h.size)

theorem lent_flat {τ : Ty} {cs : List C} {x : τ.D} {vs : List Value} (ho : Own Γ.h Γ.S τ x vs (fun _ => False)) (hbk : ∀ y loc0, backD τ y cs loc0 = loc0) : Lent Γ τ cs x [] vs (fun _ => False) :=
  ⟨ho, fun _ h => h.elim, fun _ hb => (nomatch hb), fun h' Ft y F1 loc0 _ _ _ _ _ _ => ⟨fun _ _ => False, by rw [hbk]; exact Back.nil _ _ _ _ _⟩⟩

include hb hd hlt in
theorem ownArg_lent : (τ : Ty) → (cs : List C) → (x : τ.D) → (l : List Nat) → (vs : List Value) → ownArg Γ.loc τ cs = some (x, l) → l.Nodup → All2 (cRel Γ) cs vs → ∃ F0, Lent Γ τ cs x l vs F0
  | .int _, cs, x, l, vs, h, _, ha => by obtain ⟨h2, rfl⟩ := withNil_some h; exact ⟨_, lent_flat (cInt_rel h2 ha) fun _ _ => rfl⟩
  | .bool, cs, x, l, vs, h, _, ha => by obtain ⟨h2, rfl⟩ := withNil_some h; exact ⟨_, lent_flat (cBool_rel h2 ha) fun _ _ => rfl⟩
  | .flt _, cs, x, l, vs, h, _, ha => by obtain ⟨h2, rfl⟩ := withNil_some h; exact ⟨_, lent_flat (cFlt_rel h2 ha) fun _ _ => rfl⟩
  | .str, cs, x, l, vs, h, _, ha => by obtain ⟨h2, rfl⟩ := withNil_some h; exact ⟨_, lent_flat (cStr_rel h2 ha) fun _ _ => rfl⟩
  | .unit, cs, x, l, vs, h, _, ha => by obtain ⟨h2, rfl⟩ := withNil_some h; exact ⟨_, lent_flat (cUnit_rel h2 ha) fun _ _ => rfl⟩
  | .rslice e, cs, x, l, vs, h, _, ha => by
    obtain ⟨h2, rfl⟩ := withNil_some h
    obtain ⟨v, rfl, hr⟩ := viewOf_rel h2 ha
    exact ⟨_, lent_flat hr fun _ _ => rfl⟩
  | .ref e, cs, x, l, vs, h, _, ha => by obtain ⟨h2, rfl⟩ := withNil_some h; exact ⟨_, lent_flat (viewRef_rel h2 ha) fun _ _ => rfl⟩
  | .fn _, cs, x, l, vs, h, _, ha => by obtain ⟨h2, rfl⟩ := withNil_some h; exact ⟨_, lent_flat (cFn_rel h2 ha) fun _ _ => rfl⟩
  | .slice e, cs, x, l, vs, h, _, ha => by
    simp only [ownArg] at h
    unfold lendSl at h
    split at h
    · rename_i b hs
      obtain ⟨v, rfl, hr⟩ := cSl_rel hs ha
      obtain ⟨⟨pin, hl⟩, rfl⟩ := lendRow_some h
      have hown := row_own hb hl hr
      obtain ⟨rfl, _⟩ := hr
      have hcs : cs = [.sl (.row b)] := by
        unfold cSl at hs
        split at hs <;> cases hs
        rfl
      subst hcs
      refine ⟨rowsF Γ.F [b], hown, fun _ h => h, fun b' hb' => ⟨pin, e, x, by simp at hb'; subst hb'; exact hl⟩, fun h' Ft y F1 loc0 _ _ _ _ ho h0 => ?_⟩
      have hl0 : loc0[b]? = some (.row pin e x) := (h0 b (by simp)).trans hl
      obtain ⟨_, base, cap, eH, _⟩ := hb b _ hl
      have hlen : y.length = x.length := by
        obtain ⟨_, base', cap', e', _⟩ := ho
        rw [eH] at e'
        simp only [List.cons.injEq, Value.slice.injEq, and_true] at e'
        exact e'.2.1.symm
      have hback : backD (.slice e) y [.sl (.row b)] loc0 = loc0.set b (.row pin e y) := by
        simp only [backD, hl0]
      rw [hback]
      have hblt : b < loc0.length := (List.getElem?_eq_some_iff.1 hl0).1
      refine ⟨fun _ => F1, ⟨fun _ _ c hc => .inl hc, fun b1 b2 h1 h2 hne => ?_, fun b1 h1 => ?_, fun b1 h1 => ?_⟩⟩
      · simp at h1 h2; omega
      · simp at h1
        subst h1
        exact ⟨pin, e, x, y, hl, List.getElem?_set_self hblt, hlen, ho⟩
      · simp at h1
        exact List.getElem?_set_ne (Ne.symm h1)
    · rename_i b i off τ0 zs0 hs
      obtain ⟨v, rfl, hr⟩ := cSl_rel hs ha
      have hcs : cs = [.sl (.nest b i off τ0 zs0)] := by
        unfold cSl at hs
        split at hs <;> cases hs
        rfl
      subst hcs
      unfold lendNest at h
      split at h
      · rename_i pin τ xs hl
        split at h
        · rename_i ys hg
          cases h
          obtain ⟨G1, ho1, hG1, hback⟩ := row_lens hb hl hr hg
          refine ⟨G1, ho1, fun c hc => ⟨b, by simp, hG1 c hc⟩, fun b' hb' => ⟨pin, τ, xs, by simp at hb'; subst hb'; exact hl⟩, fun h' Ft y F1 loc0 hbh hF0 hnt hF1 ho h0 => ?_⟩
          have hl0 : loc0[b]? = some (.row pin τ xs) := (h0 b (by simp)).trans hl
          obtain ⟨z, hz, hoz⟩ := hback h' y F1 ho hbh.S (fun c hc hn => hbh.heap c (hlt b _ hl rfl c hc) (hnt c ⟨b, by simp, hc⟩ hn))
            (fun c hc hn => by
              rcases hF1 c hc with h1 | h1
              · exact hnt c ⟨b, by simp, hn.1⟩ hn.2 h1
              · have := hlt b _ hl rfl c hn.1; omega)
          have hbk : backD (.slice e) y [.sl (.nest b i off τ0 zs0)] loc0 = loc0.set b (.row pin τ (xs.set i z)) := by
            simp only [backD, hl0, hz]
          rw [hbk]
          have hblt : b < loc0.length := (List.getElem?_eq_some_iff.1 hl0).1
          refine ⟨fun _ => fun c => (Γ.F b c ∧ ¬ G1 c) ∨ F1 c, ⟨fun b1 h1 c hc => ?_, fun b1 b2 h1 h2 hne => ?_, fun b1 h1 => ?_, fun b1 h1 => ?_⟩⟩
          · simp at h1
            subst h1
            exact hc.symm
          · simp at h1 h2; omega
          · simp at h1
            subst h1
            exact ⟨pin, τ, xs, xs.set i z, hl, List.getElem?_set_self hblt, List.length_set, hoz⟩
          · simp at h1
            exact List.getElem?_set_ne (Ne.symm h1)
        · cases h
      · cases h
    · cases h
  | .pair a b, cs, x, l, vs, h, hn, ha => by
    simp only [ownArg] at h
    split at h
    · rename_i x1 l1 x2 l2 hx1 hx2
      cases h
      rw [List.nodup_append] at hn
      obtain ⟨Fa, La⟩ := ownArg_lent a _ x1 l1 _ hx1 hn.1 (ha.take a.size)
      obtain ⟨Fb, Lb⟩ := ownArg_lent b _ x2 l2 _ hx2 hn.2.1 (ha.drop a.size)
      have apart : ∀ c, rowsF Γ.F l1 c → ¬ rowsF Γ.F l2 c := by
        rintro c ⟨b1, h1, h2⟩ ⟨b2, h3, h4⟩
        obtain ⟨_, _, _, e1⟩ := La.rows b1 h1
        obtain ⟨_, _, _, e2⟩ := Lb.rows b2 h3
        exact hd b1 b2 _ _ e1 e2 rfl rfl (hn.2.2 b1 h1 b2 h3) c h2 h4
      refine ⟨fun c => Fa c ∨ Fb c, ⟨_, _, Fa, Fb, (List.take_append_drop a.size vs).symm, La.own, Lb.own, fun _ h => .inl h, fun _ h => .inr h, fun c h1 h2 => apart c (La.sub c h1) (Lb.sub c h2)⟩, ?_, ?_, ?_⟩
      · rintro c (hc | hc)
        · obtain ⟨b', h1, h2⟩ := La.sub c hc; exact ⟨b', by simp [h1], h2⟩
        · obtain ⟨b', h1, h2⟩ := Lb.sub c hc; exact ⟨b', by simp [h1], h2⟩
      · intro b' hb'
        rcases List.mem_append.1 hb' with hb' | hb'
        · exact La.rows b' hb'
        · exact Lb.rows b' hb'
      · intro h' Ft y F1 loc0 hbh hF0 hnt hF1 ho h0
        obtain ⟨c1, c2, G1, G2, ecs, o1, o2, s1, s2, d⟩ := ho
        have hlv := ha.length
        have hlo1 := Own.length _ _ _ _ o1
        have e1 : c1 = vs.take a.size := by rw [ecs, ← hlo1, List.take_left]
        have e2 : c2 = vs.drop a.size := by rw [ecs, ← hlo1, List.drop_left]
        rw [e1] at o1
        rw [e2] at o2
        obtain ⟨Na, Ba⟩ := La.back h' Ft y.1 G1 loc0 hbh (fun c hc => hF0 c (.inl hc)) (fun c ⟨b', h1, h2⟩ hn' => hnt c ⟨b', by simp [h1], h2⟩ fun hx => hx.elim hn' fun hx => apart c ⟨b', h1, h2⟩ (Lb.sub c hx)) (fun c hc => hF1 c (s1 c hc)) o1
          (fun b' hb' => h0 b' (List.mem_append.2 (.inl hb')))
        obtain ⟨Nb, Bb⟩ := Lb.back h' Ft y.2 G2 (backD a y.1 (cs.take a.size) loc0) hbh (fun c hc => hF0 c (.inr hc)) (fun c ⟨b', h1, h2⟩ hn' => hnt c ⟨b', by simp [h1], h2⟩ fun hx => hx.elim (fun hx => apart c (La.sub c hx) ⟨b', h1, h2⟩) hn') (fun c hc => hF1 c (s2 c hc)) o2
          (fun b' hb' => (Ba.other b' fun hm => hn.2.2 b' hm b' hb' rfl).trans (h0 b' (List.mem_append.2 (.inr hb'))))
        have mem : ∀ b', b' ∈ l1 ++ l2 → (b' ∈ l1 ∧ b' ∉ l2) ∨ (b' ∈ l2 ∧ b' ∉ l1) := fun b' hm => by
          rcases List.mem_append.1 hm with h1 | h1
          · exact .inl ⟨h1, fun h2 => hn.2.2 b' h1 b' h2 rfl⟩
          · exact .inr ⟨h1, fun h2 => hn.2.2 b' h2 b' h1 rfl⟩
        have ltA : ∀ b', b' ∈ l1 → ∀ c, Γ.F b' c → c < Γ.h.size := fun b' h1 c hc => by
          obtain ⟨_, _, _, e⟩ := La.rows b' h1; exact hlt b' _ e rfl c hc
        have ltB : ∀ b', b' ∈ l2 → ∀ c, Γ.F b' c → c < Γ.h.size := fun b' h1 c hc => by
          obtain ⟨_, _, _, e⟩ := Lb.rows b' h1; exact hlt b' _ e rfl c hc
        -- what one side got back lies not in what the other side kept
        have keepB : ∀ b', b' ∈ l2 → ∀ c, G1 c → Γ.F b' c → ¬ Fb c → False := fun b' h1 c hg hf hnb => by
          rcases hF1 c (s1 c hg) with h2 | h2
          · exact hnt c ⟨b', by simp [h1], hf⟩ (fun hx => hx.elim (fun hx => apart c (La.sub c hx) ⟨b', h1, hf⟩) hnb) h2
          · have := ltB b' h1 c hf; omega
        have keepA : ∀ b', b' ∈ l1 → ∀ c, G2 c → Γ.F b' c → ¬ Fa c → False := fun b' h1 c hg hf hna => by
          rcases hF1 c (s2 c hg) with h2 | h2
          · exact hnt c ⟨b', by simp [h1], hf⟩ (fun hx => hx.elim hna fun hx => apart c ⟨b', h1, hf⟩ (Lb.sub c hx)) h2
          · have := ltA b' h1 c hf; omega
        have cross : ∀ b1 b2, b1 ∈ l1 → b2 ∈ l2 → ∀ c, Na b1 c → ¬ Nb b2 c := fun b1 b2 h1 h2 c hc1 hc2 => by
          rcases Ba.sub b1 h1 c hc1 with h3 | ⟨h3, h3'⟩ <;> rcases Bb.sub b2 h2 c hc2 with h4 | ⟨h4, h4'⟩
          · exact d c h3 h4
          · exact keepB b2 h2 c h3 h4 h4'
          · exact keepA b1 h1 c h4 h3 h3'
          · exact apart c ⟨b1, h1, h3⟩ ⟨b2, h2, h4⟩
        refine ⟨fun b' => bif memB l1 b' then Na b' else Nb b', ⟨fun b' hm c hc => ?_, fun b1 b2 hm1 hm2 hne c hc1 hc2 => ?_, fun b' hm => ?_, fun b' hm => ?_⟩⟩
        · rcases mem b' hm with ⟨h1, _⟩ | ⟨h1, h2⟩
          · rw [(memB_iff _ _).2 h1] at hc
            rcases Ba.sub b' h1 c hc with h3 | ⟨h3, h4⟩
            · exact .inl (s1 c h3)
            · exact .inr ⟨h3, fun hx => hx.elim h4 fun hx => apart c ⟨b', h1, h3⟩ (Lb.sub c hx)⟩
          · rw [(memB_false _ _).2 h2] at hc
            rcases Bb.sub b' h1 c hc with h3 | ⟨h3, h4⟩
            · exact .inl (s2 c h3)
            · exact .inr ⟨h3, fun hx => hx.elim (fun hx => apart c (La.sub c hx) ⟨b', h1, h3⟩) h4⟩
        · rcases mem b1 hm1 with ⟨h1, _⟩ | ⟨h1, h1'⟩ <;> rcases mem b2 hm2 with ⟨h2, _⟩ | ⟨h2, h2'⟩
          · rw [(memB_iff _ _).2 h1] at hc1; rw [(memB_iff _ _).2 h2] at hc2
            exact Ba.disj b1 b2 h1 h2 hne c hc1 hc2
          · rw [(memB_iff _ _).2 h1] at hc1; rw [(memB_false _ _).2 h2'] at hc2
            exact cross b1 b2 h1 h2 c hc1 hc2
          · rw [(memB_false _ _).2 h1'] at hc1; rw [(memB_iff _ _).2 h2] at hc2
            exact cross b2 b1 h2 h1 c hc2 hc1
          · rw [(memB_false _ _).2 h1'] at hc1; rw [(memB_false _ _).2 h2'] at hc2
            exact Bb.disj b1 b2 h1 h2 hne c hc1 hc2
        · rcases mem b' hm with ⟨h1, h2⟩ | ⟨h1, h2⟩
          · obtain ⟨pin, τ, xs, xs', e1, e2, e3, e4⟩ := Ba.row b' h1
            refine ⟨pin, τ, xs, xs', e1, ?_, e3, ?_⟩
            · show (backD b y.2 _ (backD a y.1 _ loc0))[b']? = _
              rw [Bb.other b' h2]; exact e2
            · rw [(memB_iff _ _).2 h1]; exact e4
          · obtain ⟨pin, τ, xs, xs', e1, e2, e3, e4⟩ := Bb.row b' h1
            refine ⟨pin, τ, xs, xs', e1, e2, e3, ?_⟩
            rw [(memB_false _ _).2 h2]; exact e4
        · have h1 : b' ∉ l1 := fun hx => hm (List.mem_append.2 (.inl hx))
          have h2 : b' ∉ l2 := fun hx => hm (List.mem_append.2 (.inr hx))
          exact (Bb.other b' h2).trans (Ba.other b' h1)
    · cases h
end
end Go.Fw
