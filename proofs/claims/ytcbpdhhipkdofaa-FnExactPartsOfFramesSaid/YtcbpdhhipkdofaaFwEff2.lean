/- Stores into the elements of a row. No condition. -/
import Derived.Test.YtcbpdhhipkdofaaFwEff
namespace Go.Fw

/-- A list with a part laid over. -/
def patch (l : List Value) (p : Nat) (us : List Value) : List Value := l.take p ++ us ++ l.drop (p + us.length)

theorem patch_length {l us : List Value} {p : Nat} (h : p + us.length ≤ l.length) : (patch l p us).length = l.length := by
  simp [patch]; omega

theorem patch_get {l us : List Value} {p : Nat} (h : p + us.length ≤ l.length) (j : Nat) : (patch l p us)[j]? = if p ≤ j ∧ j < p + us.length then us[j - p]? else l[j]? := by
  unfold patch
  have hl : (l.take p).length = p := by simp; omega
  by_cases h1 : j < p
  · rw [if_neg (by omega), List.append_assoc, List.getElem?_append_left (by omega), List.getElem?_take, if_pos h1]
  · by_cases h2 : j < p + us.length
    · rw [if_pos (by omega), List.append_assoc, List.getElem?_append_right (by omega), hl, List.getElem?_append_left (by omega)]
    · rw [if_neg (by omega), List.getElem?_append_right (by simp; omega), List.getElem?_drop]
      congr 1
      simp; omega

theorem win_get (arr : Array Value) (o n j : Nat) : (win arr o n)[j]? = if j < n then arr.toList[o + j]? else none := by
  unfold win
  rw [List.getElem?_take]
  split
  · rw [List.getElem?_drop]
  · rfl

theorem patch_win_other {arr : Array Value} {us : List Value} {p sz j : Nat} (h : p + us.length ≤ arr.size) (hj : j + sz ≤ p ∨ p + us.length ≤ j) : win (patch arr.toList p us).toArray j sz = win arr j sz := by
  apply List.ext_getElem?
  intro i
  rw [win_get, win_get]
  split
  · rw [patch_get (by simpa using h), if_neg (by omega)]
  · rfl

theorem patch_win_same {arr : Array Value} {us : List Value} {sz j off : Nat} (h : j + sz ≤ arr.size) (ho : off + us.length ≤ sz) : win (patch arr.toList (j + off) us).toArray j sz = patch (win arr j sz) off us := by
  have hl := win_length h
  apply List.ext_getElem?
  intro i
  rw [patch_get (l := win arr j sz) (by omega), win_get, win_get]
  by_cases h1 : i < sz
  · rw [if_pos h1, if_pos h1, patch_get (by simp; omega)]
    by_cases h2 : off ≤ i ∧ i < off + us.length
    · rw [if_pos (by omega), if_pos h2]
      congr 1; omega
    · rw [if_neg (by omega), if_neg h2]
  · rw [if_neg h1, if_neg h1, if_neg (by omega)]

theorem ownD_nil (loc : List Blk) : (τ : Ty) → (cs : List C) → (x : τ.D) → (l : List Nat) → ownD [] τ cs = some (x, l) → l = [] ∧ ownD loc τ cs = some (x, [])
  | .int _, _, _, _, h => by obtain ⟨h2, rfl⟩ := withNil_some h; exact ⟨rfl, h⟩
  | .bool, _, _, _, h => by obtain ⟨h2, rfl⟩ := withNil_some h; exact ⟨rfl, h⟩
  | .flt _, _, _, _, h => by obtain ⟨h2, rfl⟩ := withNil_some h; exact ⟨rfl, h⟩
  | .str, _, _, _, h => by obtain ⟨h2, rfl⟩ := withNil_some h; exact ⟨rfl, h⟩
  | .unit, _, _, _, h => by obtain ⟨h2, rfl⟩ := withNil_some h; exact ⟨rfl, h⟩
  | .rslice e, _, _, _, h => by obtain ⟨h2, rfl⟩ := withNil_some h; exact ⟨rfl, h⟩
  | .ref e, _, _, _, h => by obtain ⟨h2, rfl⟩ := withNil_some h; exact ⟨rfl, h⟩
  | .fn f, _, _, _, h => by obtain ⟨h2, rfl⟩ := withNil_some h; exact ⟨rfl, h⟩
  | .slice e, cs, x, l, h => by
    simp only [ownD] at h ⊢
    unfold giveSl at h ⊢
    split at h
    · rename_i hs
      cases h
      exact ⟨rfl, rfl⟩
    · rename_i b hs
      simp [giveRow] at h
    · cases h
  | .pair a b, cs, x, l, h => by
    simp only [ownD] at h ⊢
    split at h
    · rename_i y l1 z l2 hy hz
      cases h
      obtain ⟨rfl, h1⟩ := ownD_nil loc a _ _ _ hy
      obtain ⟨rfl, h2⟩ := ownD_nil loc b _ _ _ hz
      rw [h1, h2]
      exact ⟨rfl, rfl⟩
    · cases h

/-- Cells without rows of their own. -/
theorem ownD_flat {Γ : Ctx} {τ : Ty} {cs : List C} {x : τ.D} {l : List Nat} {vs : List Value} (h : ownD [] τ cs = some (x, l)) (ha : All2 (cRel Γ) cs vs) : Own Γ.h Γ.S τ x vs (fun _ => False) := by
  have key : ∀ (τ : Ty) (cs : List C) (x : τ.D) (l : List Nat) (vs : List Value), ownD [] τ cs = some (x, l) → All2 (cRel Γ) cs vs → Own Γ.h Γ.S τ x vs (fun _ => False) := by
    intro τ
    induction τ with
    | int k => intro cs x l vs h ha; obtain ⟨h2, _⟩ := withNil_some h; exact cInt_rel h2 ha
    | bool => intro cs x l vs h ha; obtain ⟨h2, _⟩ := withNil_some h; exact cBool_rel h2 ha
    | flt k => intro cs x l vs h ha; obtain ⟨h2, _⟩ := withNil_some h; exact cFlt_rel h2 ha
    | str => intro cs x l vs h ha; obtain ⟨h2, _⟩ := withNil_some h; exact cStr_rel h2 ha
    | unit => intro cs x l vs h ha; obtain ⟨h2, _⟩ := withNil_some h; exact cUnit_rel h2 ha
    | rslice e _ =>
      intro cs x l vs h ha
      obtain ⟨h2, _⟩ := withNil_some h
      obtain ⟨v, rfl, hr⟩ := viewOf_rel h2 ha
      exact hr
    | ref e _ => intro cs x l vs h ha; obtain ⟨h2, _⟩ := withNil_some h; exact viewRef_rel h2 ha
    | fn f => intro cs x l vs h ha; obtain ⟨h2, _⟩ := withNil_some h; exact cFn_rel h2 ha
    | slice e _ =>
      intro cs x l vs h ha
      simp only [ownD] at h
      unfold giveSl at h
      split at h
      · rename_i hs
        cases h
        obtain ⟨v, rfl, base, rfl⟩ := cSl_rel hs ha
        exact ⟨by simp, base, 0, rfl, Nat.le_refl _, by simp, .inl rfl⟩
      · simp [giveRow] at h
      · cases h
    | pair a b iha ihb =>
      intro cs x l vs h ha
      simp only [ownD] at h
      split at h
      · rename_i y l1 z l2 hy hz
        cases h
        exact ⟨_, _, fun _ => False, fun _ => False, (List.take_append_drop a.size vs).symm, iha _ _ _ _ hy (ha.take a.size), ihb _ _ _ _ hz (ha.drop a.size), fun _ h => h, fun _ h => h, fun _ h => h.elim⟩
      · cases h
  exact key τ cs x l vs h ha

/-- A change of some cells of data. -/
theorem setAt_own {Γ : Ctx} {us : List Value} : (τ : Ty) → (x : τ.D) → (off : Nat) → (vs : List C) → (y : τ.D) → (cs : List Value) → (G : Nat → Prop) → setAt τ x off vs = some y → All2 (cRel Γ) vs us →
    Own Γ.h Γ.S τ x cs G → Own Γ.h Γ.S τ y (patch cs off us) G ∧ off + us.length ≤ τ.size := by
  have whole : ∀ (τ : Ty) (vs : List C) (y : τ.D) (off : Nat) (cs : List Value) (G : Nat → Prop), (Nat.beq off 0 && Nat.beq vs.length τ.size) = true → ownD [] τ vs = some (y, []) → All2 (cRel Γ) vs us →
      cs.length = τ.size → Own Γ.h Γ.S τ y (patch cs off us) G ∧ off + us.length ≤ τ.size := by
    intro τ vs y off cs G hb hy ha hcs
    rw [Bool.and_eq_true] at hb
    have h0 : off = 0 := Nat.eq_of_beq_eq_true hb.1
    have h1 : vs.length = τ.size := Nat.eq_of_beq_eq_true hb.2
    have hul := ha.length
    subst h0
    refine ⟨?_, by omega⟩
    have : patch cs 0 us = us := by
      unfold patch
      rw [List.take_zero, List.nil_append, List.drop_eq_nil_of_le (by omega), List.append_nil]
    rw [this]
    exact Own.mono (fun _ h => h) (fun _ _ => rfl) _ _ _ _ _ (fun _ h => h.elim) (fun _ _ => rfl) (ownD_flat hy ha)
  intro τ
  induction τ with
  | int k =>
    intro x off vs y cs G h ha ho
    simp only [setAt] at h
    obtain ⟨hb, h⟩ := bif_some h
    split at h
    · rename_i y' hy
      cases h
      exact whole _ vs _ off cs G hb hy ha (Own.length _ _ _ _ ho)
    · cases h
  | bool =>
    intro x off vs y cs G h ha ho
    simp only [setAt] at h
    obtain ⟨hb, h⟩ := bif_some h
    split at h
    · rename_i y' hy
      cases h
      exact whole _ vs _ off cs G hb hy ha (Own.length _ _ _ _ ho)
    · cases h
  | flt k =>
    intro x off vs y cs G h ha ho
    simp only [setAt] at h
    obtain ⟨hb, h⟩ := bif_some h
    split at h
    · rename_i y' hy
      cases h
      exact whole _ vs _ off cs G hb hy ha (Own.length _ _ _ _ ho)
    · cases h
  | str =>
    intro x off vs y cs G h ha ho
    simp only [setAt] at h
    obtain ⟨hb, h⟩ := bif_some h
    split at h
    · rename_i y' hy
      cases h
      exact whole _ vs _ off cs G hb hy ha (Own.length _ _ _ _ ho)
    · cases h
  | unit =>
    intro x off vs y cs G h ha ho
    simp only [setAt] at h
    obtain ⟨hb, h⟩ := bif_some h
    split at h
    · rename_i y' hy
      cases h
      exact whole _ vs _ off cs G hb hy ha (Own.length _ _ _ _ ho)
    · cases h
  | slice e _ =>
    intro x off vs y cs G h ha ho
    simp only [setAt] at h
    obtain ⟨hb, h⟩ := bif_some h
    split at h
    · rename_i y' hy
      cases h
      exact whole _ vs _ off cs G hb hy ha (Own.length _ _ _ _ ho)
    · cases h
  | rslice e _ =>
    intro x off vs y cs G h ha ho
    simp only [setAt] at h
    obtain ⟨hb, h⟩ := bif_some h
    split at h
    · rename_i y' hy
      cases h
      exact whole _ vs _ off cs G hb hy ha (Own.length _ _ _ _ ho)
    · cases h
  | ref e _ =>
    intro x off vs y cs G h ha ho
    simp only [setAt] at h
    obtain ⟨hb, h⟩ := bif_some h
    split at h
    · rename_i y' hy
      cases h
      exact whole _ vs _ off cs G hb hy ha (Own.length _ _ _ _ ho)
    · cases h
  | fn f =>
    intro x off vs y cs G h ha ho
    simp only [setAt] at h
    obtain ⟨hb, h⟩ := bif_some h
    split at h
    · rename_i y' hy
      cases h
      exact whole _ vs _ off cs G hb hy ha (Own.length _ _ _ _ ho)
    · cases h
  | pair a b iha ihb =>
    intro x off vs y cs G h ha ho
    have hlen := Own.length _ _ _ _ ho
    have hul := ha.length
    simp only [setAt] at h
    cases hw : Nat.beq off 0 && Nat.beq vs.length (a.size + b.size)
    · rw [hw] at h
      simp only [cond_false] at h
      obtain ⟨c1, c2, F1, F2, rfl, o1, o2, s1, s2, d⟩ := ho
      have l1 := Own.length _ _ _ _ o1
      have l2 := Own.length _ _ _ _ o2
      cases hl : Nat.ble (off + vs.length) a.size
      · rw [hl] at h
        simp only [cond_false] at h
        obtain ⟨hr, h⟩ := bif_some h
        have hge := Nat.le_of_ble_eq_true hr
        split at h
        · rename_i z hz
          cases h
          obtain ⟨o2', hle⟩ := ihb _ _ _ _ _ _ hz ha o2
          refine ⟨⟨c1, patch c2 (off - a.size) us, F1, F2, ?_, o1, o2', s1, s2, d⟩, by show off + us.length ≤ a.size + b.size; omega⟩
          unfold patch
          have e1 : off = c1.length + (off - a.size) := by omega
          conv => lhs; rw [e1]
          rw [List.take_length_add_append, show c1.length + (off - a.size) + us.length = c1.length + (off - a.size + us.length) by omega, List.drop_length_add_append]
          simp [List.append_assoc]
        · cases h
      · rw [hl] at h
        simp only [cond_true] at h
        have hle := Nat.le_of_ble_eq_true hl
        split at h
        · rename_i z hz
          cases h
          obtain ⟨o1', hle'⟩ := iha _ _ _ _ _ _ hz ha o1
          refine ⟨⟨patch c1 off us, c2, F1, F2, ?_, o1', o2, s1, s2, d⟩, by show off + us.length ≤ a.size + b.size; omega⟩
          unfold patch
          rw [List.take_append_of_le_length (by omega), List.drop_append_of_le_length (by omega)]
          simp [List.append_assoc]
        · cases h
    · rw [hw] at h
      simp only [cond_true] at h
      split at h
      · rename_i y' hy
        cases h
        exact whole (.pair a b) vs _ off cs G hw hy ha hlen
      · cases h

/-- A row and one of its elements. -/
theorem row_open {h : Heap} {S : Nat → Prop} {τ : Ty} {xs : List τ.D} {hd : Value} {Fb : Nat → Prop} (ho : Own h S (.slice τ) xs [hd] Fb) {i : Nat} (hi : i < xs.length) :
    ∃ c arr te cap, ∃ G : Nat → Nat → Prop, hd = .slice (some ⟨c, 0, none⟩) xs.length cap ∧ Fb c ∧ h[c]? = some (.cells arr te (0, 0)) ∧ arr.size = cap * τ.size ∧ xs.length ≤ cap ∧
      (∀ i j b, G i b → G j b → i = j) ∧ (∀ i b, G i b → Fb b ∧ b ≠ c) ∧ Own h S τ xs[i] (win arr (i * τ.size) τ.size) (G i) ∧
      ∀ (h' : Heap) (arr' : Array Value) (x' : τ.D) (Gi : Nat → Prop), h'[c]? = some (.cells arr' te (0, 0)) → arr'.size = arr.size → (∀ j, j ≠ i → win arr' (j * τ.size) τ.size = win arr (j * τ.size) τ.size) →
        (∀ d, Fb d → d ≠ c → h'[d]? = h[d]?) → (∀ d, S d → h'[d]? = h[d]?) → Own h' S τ x' (win arr' (i * τ.size) τ.size) Gi → (∀ d, Gi d → d ≠ c ∧ (G i d ∨ ¬ Fb d)) →
        Own h' S (.slice τ) (xs.set i x') [hd] (fun d => Fb d ∨ Gi d) := by
  obtain ⟨hm, base, cap, e, hle, hcm, h3⟩ := ho
  simp only [List.cons.injEq, and_true] at e
  rcases h3 with h0 | ⟨c, arr, te, rfl, hF, hg, hsz, G, g1, g2, hx⟩
  · omega
  · refine ⟨c, arr, te, cap, G, e, hF, hg, hsz, hle, g1, g2, hx i _ (List.getElem?_eq_getElem hi), ?_⟩
    intro h' arr' x' Gi hg' hsz' hoth hFb hS ho' hGi
    refine ⟨by rw [List.length_set]; exact hm, _, cap, by rw [List.length_set, e], by rw [List.length_set]; exact hle, hcm, .inr ⟨c, arr', te, rfl, .inl hF, hg', hsz'.trans hsz, fun j => if j = i then Gi else G j, ?_, ?_, ?_⟩⟩
    · intro j1 j2 d h1 h2
      by_cases e1 : j1 = i <;> by_cases e2 : j2 = i
      · omega
      · simp only [e1, if_true, e2, if_false] at h1 h2
        rcases (hGi d h1).2 with h5 | h5
        · rw [e1]; exact g1 i j2 d h5 h2
        · exact absurd (g2 j2 d h2).1 h5
      · simp only [e1, if_false, e2, if_true] at h1 h2
        rcases (hGi d h2).2 with h5 | h5
        · rw [e2]; exact g1 j1 i d h1 h5
        · exact absurd (g2 j1 d h1).1 h5
      · simp only [e1, if_false, e2] at h1 h2
        exact g1 j1 j2 d h1 h2
    · intro j d hd'
      by_cases e1 : j = i
      · simp only [e1, if_true] at hd'
        exact ⟨.inr hd', (hGi d hd').1⟩
      · simp only [e1, if_false] at hd'
        exact ⟨.inl (g2 j d hd').1, (g2 j d hd').2⟩
    · intro j y hj
      by_cases e1 : j = i
      · subst e1
        rw [List.getElem?_set_self hi] at hj
        cases hj
        simp only [if_true]
        exact ho'
      · rw [List.getElem?_set_ne (Ne.symm e1)] at hj
        simp only [e1, if_false]
        rw [hoth j e1]
        exact Own.mono (fun _ h => h) hS _ _ _ _ _ (fun _ h => h) (fun d hd' => hFb d (g2 j d hd').1 (g2 j d hd').2) (hx j y hj)

section store
variable {P : Program} {o : Oper} {st : St} {R : Type} {r : R}

theorem deadAt_set {ds : List Nat} {b : Nat} {k : Blk} (hb : b ∉ ds) : ∀ (i : Nat) (l : List Blk) (j : Nat), i + j = b → deadAt ds i (l.set j k) = (deadAt ds i l).set j k
  | i, [], j, _ => by simp [deadAt]
  | i, x :: r, 0, e => by
    simp only [List.set_cons_zero, deadAt]
    rw [(memB_false ds i).2 (by rw [← e] at hb; simpa using hb)]
    rfl
  | i, x :: r, j + 1, e => by
    simp only [List.set_cons_succ, deadAt]
    rw [deadAt_set hb (i + 1) r j (by omega)]

theorem setBlk_kill {st : St} {b : Nat} {pin : Bool} {τ : Ty} {xs : List τ.D} {ds ns : List Nat} (hb : b ∉ ds) :
    (st.setBlk b (.row pin τ xs)).kill ds ns = { st with fr := killFr ds ns st.fr, loc := ((deadAt ds 0 st.loc).map (Blk.kill ds ns)).set b (.row pin τ xs) } := by
  rw [St.kill_eq]
  simp only [St.setBlk]
  rw [deadAt_set hb 0 st.loc b (by omega), List.map_set]
  rfl

/-- A store into element i of row b: the element's new data, the rows ms that go into it. -/
theorem ok_store_elem {t : TypeId} {ti : TI} {p x : Operand} {b i off : Nat} {pin : Bool} {τ : Ty} {xs : List τ.D} {x' : τ.D} {vs : List C} {ms ns : List Nat} (ok : TIOK P t ti) (ho : o.op = .store t p x)
    (hp : st.ev p = .v (.one (.ptr (.elem b i off)))) (hx : (st.ev x).cells = some vs) (hlen : vs.length = ti.size) (hl : st.loc[b]? = some (.row pin τ xs)) (hd : dstOk st.n o.dst = true) (hbm : b ∉ ms)
    (hns : b ∉ ns → hasSl τ = false) (hms : ∀ d, d ∈ ms → ∃ τ xs, st.loc[d]? = some (.row false τ xs))
    (hnew : ∀ (Γ : Ctx) (us : List Value) (cs : List Value) (G : Nat → Prop), Γ.loc = st.loc → (∀ b k, Γ.loc[b]? = some k → blkRel Γ b k) →
      (∀ b b' k k', Γ.loc[b]? = some k → Γ.loc[b']? = some k' → k.alive = true → k'.alive = true → b ≠ b' → ∀ c, Γ.F b c → ¬ Γ.F b' c) → All2 (cRel Γ) vs us → Own Γ.h Γ.S τ (xs.getD i τ.zero) cs G →
      off + us.length ≤ τ.size ∧ Own Γ.h Γ.S τ x' (patch cs off us) (fun c => G c ∨ rowsF Γ.F ms c)) :
    SeqOK P o st (((st.setBlk b (.row pin τ (xs.set i x'))).kill ms ns).bind o.dst .undef []) := by
  intro w0 S m H F a w hr next Q hn
  have hpv : plRel ⟨w.heap, S, m, H, F, st.loc⟩ (.elem b i off) (a.eval p) := by
    have := ev_rel hr p
    rw [hp] at this
    exact this
  obtain ⟨pin', τ', xs', hl', hi, ep⟩ := hpv
  replace hl' : st.loc[b]? = some (.row pin' τ' xs') := hl'
  rw [hl] at hl'
  cases hl'
  replace ep : a.eval p = .pointer (some ⟨m b, i * τ.size + off, none⟩) := ep
  have hvs := cells_rel hx (ev_rel hr x) hr.hdr
  obtain ⟨hown, base, cap0, eH, hbase⟩ := hr.blk b _ hl
  replace hown : Own w.heap S (.slice τ) xs [H b] (F b) := hown
  replace eH : H b = .slice base xs.length cap0 := eH
  replace hbase : cap0 = 0 ∨ base = some ⟨m b, 0, none⟩ := hbase
  obtain ⟨c, arr, te, cap, G, eh, hFc, hg, hsz, hlc, g1, g2, hoi, hclose⟩ := row_open hown hi
  have eh' := eH.symm.trans eh
  simp only [Value.slice.injEq, true_and] at eh'
  obtain ⟨hbs, rfl⟩ := eh'
  have hcm : c = m b := by
    rcases hbase with h0 | h0
    · omega
    · rw [hbs] at h0; simpa using h0
  subst hcm
  have hgd : xs.getD i τ.zero = xs[i] := by simp [hi]
  rw [← hgd] at hoi
  obtain ⟨hle, hnewo⟩ := hnew ⟨w.heap, S, m, H, F, st.loc⟩ _ _ (G i) rfl hr.blk hr.disj hvs hoi
  have hvl : vs.length = (a.eval x).cells.size := by simpa using hvs.length
  have hul : (a.eval x).cells.toList.length = ti.size := by simp; omega
  have hend : i * τ.size + τ.size ≤ arr.size := by
    rw [hsz, ← Nat.succ_mul]; exact Nat.mul_le_mul_right _ (by omega)
  have hrun := run_storeVar_at ok (off := i * τ.size + off) hg (v := a.eval x) (by omega) (by omega) (all_one hr.hdr hvs)
  rw [show (arr.toList.take (i * τ.size + off) ++ (a.eval x).cells.toList ++ arr.toList.drop (i * τ.size + off + (a.eval x).cells.toList.length)) = patch arr.toList (i * τ.size + off) (a.eval x).cells.toList from rfl] at hrun
  obtain ⟨e1, e2, e3, e4, e5⟩ := setRow_ext w (m b) (patch arr.toList (i * τ.size + off) (a.eval x).cells.toList).toArray
  have hnewg : (w.setRow (m b) (patch arr.toList (i * τ.size + off) (a.eval x).cells.toList).toArray).heap[m b]? = some (.cells (patch arr.toList (i * τ.size + off) (a.eval x).cells.toList).toArray te (0, 0)) := setRow_heap w (m b) arr _ te _ hg
  generalize w.setRow (m b) (patch arr.toList (i * τ.size + off) (a.eval x).cells.toList).toArray = w' at *
  unfold Oper.wp execOp
  simp only [ho, ep, Instr.storeAt, Instr.sureAddr, Sem.run_bind, Sem.run_pure, Result.andThen_ok, hrun, Oper.upon_skip]
  have hSh : ∀ d, S d → w'.heap[d]? = w.heap[d]? := fun d hd' => e2 d fun e => (hr.own b _ hl rfl (m b) hFc).2 (e ▸ hd')
  have hrowsF : ∀ d, rowsF F ms d → d ≠ m b ∧ ¬ F b d := by
    rintro d ⟨b', hb', hd'⟩
    obtain ⟨τ2, xs2, hl2⟩ := hms b' hb'
    have hne : b' ≠ b := fun e => hbm (e ▸ hb')
    have hnF : ¬ F b d := fun hbd => hr.disj b' b _ _ hl2 hl rfl rfl hne d hd' hbd
    exact ⟨fun e => hnF (e ▸ hFc), hnF⟩
  have hown' := hclose w'.heap (patch arr.toList (i * τ.size + off) (a.eval x).cells.toList).toArray x' (fun d => G i d ∨ rowsF F ms d) hnewg
    (by simp only [List.size_toArray]; rw [patch_length (by simp; omega)]; simp)
    (fun j hj => patch_win_other (by omega) (by
      rcases Nat.lt_or_ge j i with h1 | h1
      · left
        have : (j + 1) * τ.size ≤ i * τ.size := Nat.mul_le_mul_right _ h1
        rw [Nat.add_mul, Nat.one_mul] at this
        omega
      · right
        have : (i + 1) * τ.size ≤ j * τ.size := Nat.mul_le_mul_right _ (by omega)
        rw [Nat.add_mul, Nat.one_mul] at this
        omega))
    (fun d _ hne => e2 d hne) hSh
    (by
      rw [patch_win_same hend (by omega)]
      refine Own.mono (fun _ h => h) hSh _ _ _ _ _ (fun _ h => h) (fun d hd' => ?_) hnewo
      rcases hd' with hd' | hd'
      · exact e2 d (g2 i d hd').2
      · exact e2 d (hrowsF d hd').1)
    (fun d hd' => by
      rcases hd' with hd' | hd'
      · exact ⟨(g2 i d hd').2, .inl hd'⟩
      · exact ⟨(hrowsF d hd').1, .inr (hrowsF d hd').2⟩)
  have hupd := Rel.upd (w' := w') (m' := m) (H' := H) (F' := fun b' => if b' = b then (fun d => F b d ∨ (G i d ∨ rowsF F ms d)) else F b') hr (ds := ms) (ns := ns) (k' := .row pin τ (xs.set i x')) hl rfl (.inl hbm)
    (fun b' hne => ⟨rfl, rfl, by simp [hne]⟩) (by omega) (fun d _ hnF => e2 d fun e => hnF (e ▸ hFc)) e3 e4 e5
    (fun d hd' => by
      simp only [if_true] at hd'
      rcases hd' with hd' | hd' | ⟨b', hb', hd'⟩
      · exact ⟨.inl hd', by rw [e1]; exact hr.F_lt b _ hl rfl d hd'⟩
      · exact ⟨.inl (g2 i d hd').1, by rw [e1]; exact hr.F_lt b _ hl rfl d (g2 i d hd').1⟩
      · obtain ⟨τ2, xs2, hl2⟩ := hms b' hb'
        exact ⟨.inr (.inl ⟨b', _, hb', hl2, rfl, hd'⟩), by rw [e1]; exact hr.F_lt b' _ hl2 rfl d hd'⟩)
    (fun _ => ⟨.inr ⟨pin, pin, τ, xs, _, rfl, rfl, List.length_set, rfl⟩, rfl⟩) (fun _ hn' pin2 τ2 xs2 e => by cases e; exact hns hn') (fun τ2 xs2 e => by cases e; exact ⟨⟨_, _, rfl⟩, rfl⟩)
    ⟨by simpa using hown', base, cap0, by rw [List.length_set]; exact eH, hbase⟩
  rw [← setBlk_kill hbm] at hupd
  have hd2 : dstOk ((st.setBlk b (.row pin τ (xs.set i x'))).kill ms ns).n o.dst = true := by
    rw [St.kill_eq]; exact hd
  exact hn _ w' m H _ (hupd.bindU hd2 undef)

end store
end Go.Fw
