/- Operations in the order of the text, and whole regions. No condition. -/
import Derived.Test.YtcbpdhhipkdofaaFwMut3
import Derived.Test.YtcbpdhhipkdofaaFwEff5
namespace Go.Fw

theorem nodupB_cons {x : Nat} {l : List Nat} (h : nodupB (x :: l) = true) : x ∉ l ∧ nodupB l = true := by
  simp only [nodupB, Bool.and_eq_true, Bool.not_eq_true'] at h
  exact ⟨(memB_false _ _).1 h.1, h.2⟩

theorem ownD_rows {loc : List Blk} : ∀ {τ : Ty} {cs : List C} {x : τ.D} {l : List Nat}, ownD loc τ cs = some (x, l) → ∀ d, d ∈ l → ∃ τ xs, loc[d]? = some (.row false τ xs) := by
  intro τ
  induction τ with
  | int k => intro cs x l h d hd; obtain ⟨_, rfl⟩ := withNil_some h; cases hd
  | bool => intro cs x l h d hd; obtain ⟨_, rfl⟩ := withNil_some h; cases hd
  | flt k => intro cs x l h d hd; obtain ⟨_, rfl⟩ := withNil_some h; cases hd
  | str => intro cs x l h d hd; obtain ⟨_, rfl⟩ := withNil_some h; cases hd
  | unit => intro cs x l h d hd; obtain ⟨_, rfl⟩ := withNil_some h; cases hd
  | rslice e _ => intro cs x l h d hd; obtain ⟨_, rfl⟩ := withNil_some h; cases hd
  | ref e _ => intro cs x l h d hd; obtain ⟨_, rfl⟩ := withNil_some h; cases hd
  | fn f => intro cs x l h d hd; obtain ⟨_, rfl⟩ := withNil_some h; cases hd
  | slice e _ =>
    intro cs x l h d hd
    simp only [ownD] at h
    unfold giveSl at h
    split at h
    · cases h; cases hd
    · obtain ⟨h1, rfl⟩ := giveRow_some h
      simp at hd
      subst hd
      exact ⟨_, _, h1⟩
    · cases h
  | pair a b iha ihb =>
    intro cs x l h d hd
    simp only [ownD] at h
    split at h
    · rename_i y l1 z l2 hy hz
      cases h
      rcases List.mem_append.1 hd with hd | hd
      · exact iha hy d hd
      · exact ihb hz d hd
    · cases h

section
variable {P : Program} {E : Tabs} {R : Type} {res : R} {o : Oper} {st : St}

theorem kill_n (st : St) (ds ns : List Nat) : (st.kill ds ns).n = st.n := by rw [St.kill_eq]
theorem kill_n' (st : St) (ds ns : List Nat) {b : Nat} {k : Blk} {dst : Option Tmp} {v : FV} {bs : List Blk} : (((st.setBlk b k).kill ds ns).bind dst v bs).n = st.n := by
  show ((st.setBlk b k).kill ds ns).n = st.n
  rw [kill_n]; rfl
theorem St.kill_nn (st : St) : st.kill [] [] = st := rfl

theorem ok_store (ok : EnvOK P E) {t : TypeId} {pa x : Operand} {p : Place} {f : St → Option R} (ho : o.op = .store t pa x) (hp : st.ev pa = .v (.one (.ptr p))) (hd : dstOk st.n o.dst = true)
    (h : effStore E t p (st.ev x) st (fun st' => f (st'.bind o.dst .undef [])) = some res) : ∃ st', f st' = some res ∧ st'.n = st.n ∧ SeqOK P o st st' := by
  unfold effStore at h
  split at h
  · rename_i ti vs ht hx
    have h0 := bif_some h
    clear h
    obtain ⟨hlen, h⟩ := h0
    have hlen := Nat.eq_of_beq_eq_true hlen
    have tok := ok.tab t ti ht
    cases p with
    | view τ x off => cases h
    | box b off =>
      simp only [] at h
      split at h
      · rename_i cs hl
        obtain ⟨hle, h⟩ := bif_some h
        exact ⟨_, h, rfl, ok_store_box tok ho hp hx hlen hl (Nat.le_of_ble_eq_true hle) hd⟩
      · cases h
    | elem b i off =>
      simp only [] at h
      split at h
      · rename_i pin τ xs hl
        have flat : ∀ (x' : τ.D), setAt τ (xs.getD i τ.zero) off vs = some x' → ∀ (Γ : Ctx) (us : List Value) (cs : List Value) (G : Nat → Prop), Γ.loc = st.loc → (∀ b k, Γ.loc[b]? = some k → blkRel Γ b k) →
            (∀ b b' k k', Γ.loc[b]? = some k → Γ.loc[b']? = some k' → k.alive = true → k'.alive = true → b ≠ b' → ∀ c, Γ.F b c → ¬ Γ.F b' c) → All2 (cRel Γ) vs us → Own Γ.h Γ.S τ (xs.getD i τ.zero) cs G →
            off + us.length ≤ τ.size ∧ Own Γ.h Γ.S τ x' (patch cs off us) (fun c => G c ∨ rowsF Γ.F [] c) := by
          intro x' hs Γ us cs G _ _ _ ha ho
          obtain ⟨h1, h2⟩ := setAt_own τ _ off vs x' cs G hs ha ho
          exact ⟨h2, Own.mono (fun _ h => h) (fun _ _ => rfl) _ _ _ _ _ (fun c hc => .inl hc) (fun _ _ => rfl) h1⟩
        cases hsl : hasSl τ
        · rw [hsl] at h
          simp only [cond_false] at h
          split at h
          · rename_i x' hs
            exact ⟨_, h, rfl, ok_store_elem (ms := []) (ns := []) tok ho hp hx hlen hl hd (by simp) (fun _ => hsl) (fun d hd => by cases hd) (flat x' hs)⟩
          · cases h
        · rw [hsl] at h
          simp only [cond_true] at h
          cases hw : Nat.beq off 0 && Nat.beq ti.size τ.size
          · rw [hw] at h
            simp only [cond_false] at h
            split at h
            · rename_i x' hs
              exact ⟨_, h, kill_n' _ _ _, ok_store_elem (ms := []) (ns := [b]) tok ho hp hx hlen hl hd (by simp) (fun hn => absurd (by simp) hn) (fun d hd => by cases hd) (flat x' hs)⟩
            · cases h
          · rw [hw] at h
            simp only [cond_true] at h
            rw [Bool.and_eq_true] at hw
            have h0 : off = 0 := Nat.eq_of_beq_eq_true hw.1
            have h1 : ti.size = τ.size := Nat.eq_of_beq_eq_true hw.2
            subst h0
            split at h
            · rename_i x' ms hs
              obtain ⟨hn, h⟩ := bif_some h
              obtain ⟨hb, hn⟩ := nodupB_cons hn
              have hnd := (nodupB_iff ms).1 hn
              refine ⟨_, h, kill_n' _ _ _, ok_store_elem (ms := ms) (ns := [b]) tok ho hp hx hlen hl hd hb (fun hn => absurd (by simp) hn) (fun d hdm => ?_) ?_⟩
              · exact ownD_rows hs d hdm
              · intro Γ us cs G hΓ hblk hdj ha hown
                rw [← hΓ] at hs
                have hl1 := ha.length
                have hl2 := Own.length _ _ _ _ hown
                refine ⟨by omega, ?_⟩
                have e : patch cs 0 us = us := by
                  unfold patch
                  rw [List.take_zero, List.nil_append, List.drop_eq_nil_of_le (by omega), List.append_nil]
                rw [e]
                exact Own.mono (fun _ h => h) (fun _ _ => rfl) _ _ _ _ _ (fun c hc => .inr hc) (fun _ _ => rfl) (ownD_rel hblk hdj _ _ _ _ _ hs hnd ha).1
            · cases h
      · cases h
  · cases h

theorem opK_sound (ok : EnvOK P E) {f : St → Option R} (h : opK E o st f = some res) : ∃ st', f st' = some res ∧ st'.n = st.n ∧ SeqOK P o st st' := by
  unfold opK at h
  obtain ⟨hd, h⟩ := bif_some h
  have pure : (pureK E o st fun v bs => f (st.bind o.dst v bs)) = some res → ∃ st', f st' = some res ∧ st'.n = st.n ∧ SeqOK P o st st' := fun h => by
    obtain ⟨v, bs, h1, h2⟩ := pureK_sound ok h
    exact ⟨_, h1, rfl, h2.seq hd⟩
  split at h
  · rename_i t a x ho
    split at h
    · rename_i p hp
      exact ok_store ok ho hp hd h
    · cases h
  · rename_i t len parts ho
    cases hds : deepSl E t
    · rw [hds] at h; exact pure h
    · rw [hds] at h; exact ok_build_deep ok.tab ho hd h
  · rename_i c ho
    split at h
    · rename_i hc
      split at h
      · rename_i s x t u hargs hty
        have h0 := bif_some h
        clear h
        obtain ⟨hb, h⟩ := h0
        have e := Nat.eq_of_beq_eq_true hb
        subst e
        exact ok_append ok.tab ho hc hargs hty hd h
      · cases h
    · rename_i g hc
      split at h
      · rename_i f' caps hg
        split at h
        · exact pure h
        · rename_i fx r hfx
          exact callMut_sound ho hc hg hd _ (fun fx' hm => ok.mutf f' fx' (by rw [hfx]; exact hm)) h
      · cases h
    · exact pure h
  · exact pure h

/-! ### guards -/
theorem Rel.learn {w0 : W0} {w : World} {S : Nat → Prop} {m : Nat → Nat} {H : Nat → Value} {F : Nat → Nat → Prop} {a : Act} (h : Rel w0 S m H F st a w) {t : Tmp} {b : Bool} (hl : look st.fr t = .v (.one (.bool b))) : Rel w0 S m H F (st.learn (.tmp t) b) a w := by
  refine { h with fr := fun u => ?_ }
  show fvRel _ (look ((t, .v (.one (.bool b))) :: st.fr) u) _
  simp only [look]
  cases hb : Nat.beq t u
  · exact h.fr u
  · have := Nat.eq_of_beq_eq_true hb
    subst this
    have h1 := h.fr t
    rw [hl] at h1
    exact h1

/-- One operation of the text's order, with its guard. -/
theorem runSeq_step (ok : EnvOK P E) {all r : List Oper} {f : St → Option R} (h : runSeq E all (o :: r) st f = some res) :
    ∃ st', runSeq E all r st' f = some res ∧ st'.n = st.n ∧ ∀ w0 S m H F a w, Rel w0 S m H F st a w → ∀ (K : Act → World → Prop) (Q : Exit → Act → World → Prop),
      (∀ a' w' m' H' F', Rel w0 S m' H' F' st' a' w' → K a' w') →
      if Region.wanted o (yielded all.toArray a.tmps) then o.wp P a w K Q ∨ (o.asks P a w ∧ LetsOut Q) else K (a.put o.dst undef) w := by
  simp only [runSeq] at h
  split at h
  · rename_i hg
    obtain ⟨st', h1, hn, h2⟩ := opK_sound ok h
    refine ⟨st', h1, hn, fun w0 S m H F a w hr K Q hK => ?_⟩
    have hw : Region.wanted o (yielded all.toArray a.tmps) = true := by unfold Region.wanted; rw [hg]
    rw [if_pos hw]
    exact .inl (h2 w0 S m H F a w hr K Q hK)
  · rename_i j want hg
    split at h
    · rename_i t ht
      have htd : dstOf all j = some t := by
        unfold guardT at ht
        unfold dstOf
        split at ht
        · rename_i o' ho'; rw [ho']; exact ht
        · cases ht
      split at h
      · rename_i b hb
        have yl : ∀ w0 S m H F a w, Rel w0 S m H F st a w → yielded all.toArray a.tmps j = some b := fun w0 S m H F a w hr => by
          have := hr.fr t
          rw [hb] at this
          exact yielded_of htd (bool_val this)
        have run : b = want → opK E o (st.learn (.tmp t) b) (fun st' => runSeq E all r st' f) = some res → ∃ st', runSeq E all r st' f = some res ∧ st'.n = st.n ∧ ∀ w0 S m H F a w, Rel w0 S m H F st a w → ∀ (K : Act → World → Prop) (Q : Exit → Act → World → Prop),
            (∀ a' w' m' H' F', Rel w0 S m' H' F' st' a' w' → K a' w') →
            if Region.wanted o (yielded all.toArray a.tmps) then o.wp P a w K Q ∨ (o.asks P a w ∧ LetsOut Q) else K (a.put o.dst undef) w := by
          intro e h
          obtain ⟨st', h1, hn, h2⟩ := opK_sound ok h
          refine ⟨st', h1, hn, fun w0 S m H F a w hr K Q hK => ?_⟩
          have hw : Region.wanted o (yielded all.toArray a.tmps) = true := by
            unfold Region.wanted; rw [hg]; simp only [yl w0 S m H F a w hr, e]; simp
          rw [if_pos hw]
          exact .inl (h2 w0 S m H F a w (hr.learn hb) K Q hK)
        have skip : b ≠ want → dstOk st.n o.dst = true → runSeq E all r ((st.learn (.tmp t) b).bind o.dst (.tup []) []) f = some res → ∃ st', runSeq E all r st' f = some res ∧ st'.n = st.n ∧ ∀ w0 S m H F a w, Rel w0 S m H F st a w → ∀ (K : Act → World → Prop) (Q : Exit → Act → World → Prop),
            (∀ a' w' m' H' F', Rel w0 S m' H' F' st' a' w' → K a' w') →
            if Region.wanted o (yielded all.toArray a.tmps) then o.wp P a w K Q ∨ (o.asks P a w ∧ LetsOut Q) else K (a.put o.dst undef) w := by
          intro e hd h
          refine ⟨_, h, rfl, fun w0 S m H F a w hr K Q hK => ?_⟩
          have hw : Region.wanted o (yielded all.toArray a.tmps) = false := by
            unfold Region.wanted; rw [hg]; simp only [yl w0 S m H F a w hr]; cases b <;> cases want <;> simp_all
          rw [if_neg (by rw [hw]; simp)]
          exact hK _ _ _ _ _ ((hr.learn hb).bindGone (st := st.learn (.tmp t) b) hd)
        split at h
        · cases b
          · simp only [cond_false] at h
            obtain ⟨hd, h⟩ := bif_some h
            exact skip (by simp) hd h
          · exact run rfl h
        · cases b
          · exact run rfl h
          · simp only [cond_true] at h
            obtain ⟨hd, h⟩ := bif_some h
            exact skip (by simp) hd h
      · rename_i hb
        obtain ⟨hd, h⟩ := bif_some h
        refine ⟨_, h, rfl, fun w0 S m H F a w hr K Q hK => ?_⟩
        have hw : Region.wanted o (yielded all.toArray a.tmps) = false := by
          unfold Region.wanted
          rw [hg]
          have h1 := hr.fr t
          rw [hb] at h1
          exact not_wanted htd (.inr rfl) h1
        rw [if_neg (by rw [hw]; simp)]
        exact hK _ _ _ _ _ (hr.bindGone hd)
      · cases h
    · cases h

section regions
variable {w0 : W0} {S : Nat → Prop} {Q : Exit → Act → World → Prop}

theorem runSeq_list (ok : EnvOK P E) {all : List Oper} {f : St → Option R} {n : Nat} (hQ : ∀ st' a w m H F, st'.n = n → f st' = some res → Rel w0 S m H F st' a w → Q .normal a w) :
    ∀ (r : List Oper) (st : St) (a : Act) (w : World) (m : Nat → Nat) (H : Nat → Value) (F : Nat → Nat → Prop), st.n = n → runSeq E all r st f = some res → Rel w0 S m H F st a w → wpList P all.toArray Q r a w
  | [], st, a, w, m, H, F, hn, h, hr => hQ st a w m H F hn h hr
  | o :: r, st, a, w, m, H, F, hn, h, hr => by
    obtain ⟨st', h1, hn', h2⟩ := runSeq_step ok h
    exact h2 w0 S m H F a w hr _ Q fun a' w' m' H' F' hr' => runSeq_list ok hQ r st' a' w' m' H' F' (hn'.trans hn) h1 hr'

theorem rest_any (ok : EnvOK P E) {ops : List Oper} {bef : List Nat} (B : Bef ops bef) {p : Nat} (hrest : ∀ i, p ≤ i → i < ops.length → ∀ j, j < i → visB bef j i = true) {f : St → Option R} {n : Nat}
    (hQ : ∀ st' a w m H F, st'.n = n → f st' = some res → Rel w0 S m H F st' a w → Q .normal a w) :
    ∀ (r : List Oper) (q : Nat) (listed : Array Bool) (st : St) (a : Act) (w : World) (m : Nat → Nat) (H : Nat → Value) (F : Nat → Nat → Prop), ops.drop q = r → p ≤ q → q ≤ ops.length → Upto ops.length q listed → st.n = n → runSeq E ops r st f = some res → Rel w0 S m H F st a w →
      wpAny P .any ops.toArray Q r.length listed a w
  | [], q, listed, st, a, w, m, H, F, hd, hp, hq, hu, hn, h, hr => by
    have hk : ops.length ≤ q := List.drop_eq_nil_iff.1 hd
    refine ⟨?_, hQ st a w m H F hn h hr⟩
    refine List.eq_nil_iff_forall_not_mem.2 fun i hi => ?_
    obtain ⟨h1, o, ho, _⟩ := mem_ready.1 hi
    have hilt : i < ops.length := by
      have := (Array.getElem?_eq_some_iff.1 ho).1
      simpa using this
    have := hu.lst i hilt
    rw [getD_both h1] at this
    simp at this
    omega
  | o :: r, q, listed, st, a, w, m, H, F, hd, hp, hq, hu, hn, h, hr => by
    have ho : ops[q]? = some o := by
      have : (ops.drop q)[0]? = some o := by rw [hd]; rfl
      rwa [List.getElem?_drop, Nat.add_zero] at this
    have hqp : q < ops.length := (List.getElem?_eq_some_iff.1 ho).1
    have hd' : ops.drop (q + 1) = r := by rw [← List.drop_drop, hd]; rfl
    have hun : ∀ i, i < ops.length → q ≤ i → listed.getD i false = false := fun i hi hge => by rw [hu.lst i hi]; simp; omega
    have hin : ∀ i, i < q → listed.getD i false = true := fun i hi => by rw [hu.lst i (by omega)]; simp [hi]
    refine ⟨fun h0 => ?_, fun i hi => ?_⟩
    · exfalso
      have : q ∈ Region.ready .any ops.toArray listed := by
        refine mem_ready.2 ⟨getD_in (by rw [hu.size]; exact hqp) (hun q hqp (Nat.le_refl _)), o, by simpa using ho, fun e he hb => ?_⟩
        exact hin e.on (B.up q o ho e (by simpa using he) hb)
      rw [h0] at this
      cases this
    · obtain ⟨h1, o', ho', hall⟩ := mem_ready.1 hi
      have ho2 : ops[i]? = some o' := by simpa using ho'
      have hilt : i < ops.length := (List.getElem?_eq_some_iff.1 ho2).1
      have hqi : q ≤ i := by
        rcases Nat.lt_or_ge i q with h3 | h3
        · have := hin i h3; rw [getD_both h1] at this; cases this
        · exact h3
      have hiq : i = q := by
        rcases Nat.lt_or_ge q i with h3 | h3
        · exfalso
          have := B.ready (X := fun j => listed.getD j false = true) (fun k hk j hj => by
            rcases Nat.lt_or_ge k ops.length with h4 | h4
            · have hkq : k < q := by
                rcases Nat.lt_or_ge k q with h5 | h5
                · exact h5
                · rw [hun k h4 h5] at hk; cases hk
              exact hin j (by have := B.lt k j h4 hj; omega)
            · exfalso
              have : listed.getD k false = false := by simp [Array.getElem?_eq_none (show listed.size ≤ k by rw [hu.size]; exact h4)]
              rw [this] at hk; cases hk) ho2 (fun e he hb => hall e (by simpa using he) hb) q (hrest i (by omega) hilt q h3)
          simp only [hun q hqp (Nat.le_refl _)] at this
          cases this
        · omega
      subst hiq
      rw [ho] at ho2
      cases ho2
      obtain ⟨st', h5, hn', h6⟩ := runSeq_step ok h
      unfold wpOp
      simp only [ho']
      refine h6 w0 S m H F a w hr _ Q fun a' w' m' H' F' hr' => ?_
      refine rest_any ok B hrest hQ r (i + 1) _ st' a' w' m' H' F' hd' (by omega) (by omega) ⟨by simp [hu.size], fun j hj => ?_⟩ (hn'.trans hn) h5 hr'
      by_cases e : j = i
      · subst e
        have : j < listed.size := by rw [hu.size]; exact hj
        simp [this]
      · rw [getD_set_ne false (Ne.symm e), hu.lst j hj]
        congr 1
        simp only [eq_iff_iff]
        omega

theorem Rel.drawn {m : Nat → Nat} {H : Nat → Value} {F : Nat → Nat → Prop} {a : Act} {w : World} (h : Rel w0 S m H F st a w) (n : Nat) : Rel w0 S m H F st a { w with drawn := n } :=
  ⟨h.size, h.defers, h.fr, h.blk, h.own, h.disj, h.stab, h.grow, h.os, h.tape, h.output, h.pin⟩

theorem dsts_spec : ∀ {l : List Oper} {i : Nat} {t : Tmp}, dstOf l i = some t → t ∈ dsts l
  | [], i, t, h => by simp [dstOf] at h
  | o :: r, 0, t, h => by
    simp [dstOf] at h
    simp [dsts, h]
  | o :: r, i + 1, t, h => by
    have := dsts_spec (l := r) (i := i) (t := t) (by simpa [dstOf] using h)
    simp only [dsts]
    split
    · exact .tail _ this
    · exact this

theorem dsts_dist : ∀ {l : List Oper} {i i' : Nat} {t : Tmp}, nodupB (dsts l) = true → dstOf l i = some t → dstOf l i' = some t → i = i'
  | [], i, i', t, _, h, _ => by simp [dstOf] at h
  | o :: r, 0, 0, t, _, _, _ => rfl
  | o :: r, 0, i' + 1, t, hn, h, h' => by
    exfalso
    simp [dstOf] at h
    have h2 := dsts_spec (l := r) (i := i') (t := t) (by simpa [dstOf] using h')
    simp only [dsts, h] at hn
    exact (nodupB_cons hn).1 h2
  | o :: r, i + 1, 0, t, hn, h, h' => by
    exfalso
    simp [dstOf] at h'
    have h2 := dsts_spec (l := r) (i := i) (t := t) (by simpa [dstOf] using h)
    simp only [dsts, h'] at hn
    exact (nodupB_cons hn).1 h2
  | o :: r, i + 1, i' + 1, t, hn, h, h' => by
    have hn' : nodupB (dsts r) = true := by
      simp only [dsts] at hn
      split at hn
      · exact (nodupB_cons hn).2
      · exact hn
    exact congrArg (· + 1) (dsts_dist (l := r) (i := i) (i' := i') (t := t) hn' (by simpa [dstOf] using h) (by simpa [dstOf] using h'))

theorem restOk_spec {bef : List Nat} : ∀ {n k : Nat}, restOk bef k n = true → ∀ i, k ≤ i → i < k + n → ∀ j, j < i → visB bef j i = true
  | 0, k, _, i, h1, h2 => by omega
  | n + 1, k, h, i, h1, h2 => by
    intro j hj
    simp only [restOk, Bool.and_eq_true] at h
    by_cases e : i = k
    · subst e
      unfold visB
      rw [Nat.eq_of_beq_eq_true h.1, Nat.testBit_two_pow_sub_one]
      simpa using hj
    · exact restOk_spec h.2 i (by omega) (by omega) j hj

theorem preLen_le (E : Tabs) : ∀ ops : List Oper, preLen E ops ≤ ops.length
  | [] => Nat.le_refl _
  | o :: r => by
    have ih := preLen_le E r
    have key : ∀ b : Bool, (bif b then 0 else preLen E r + 1) ≤ r.length + 1 := fun b => by cases b <;> simp [ih]
    exact key _

/-- **A region.** -/
theorem regionK_sound (ok : EnvOK P E) {ops : List Oper} {draw : Bool} {f : St → Option R} {id : Nat} (h : regionK E ops draw st f = some res) {m : Nat → Nat} {H : Nat → Value} {F : Nat → Nat → Prop} {a : Act} {w : World} (hr : Rel w0 S m H F st a w)
    (hQ : ∀ st' a w m H F, st'.n = st.n → f st' = some res → Rel w0 S m H F st' a w → Q .normal a w) : (Code.region id ops.toArray draw).wp P Q a w := by
  cases draw with
  | false => exact wp_region_lit (runSeq_list ok hQ ops st a w m H F rfl h hr)
  | true =>
    refine wp_region_any ok.mixed ?_
    simp only [regionK] at h
    obtain ⟨bef, hb⟩ := befs_eq (α := Option R) ops []
    rw [hb, force_eq] at h
    obtain ⟨hc, h⟩ := bif_some h
    simp only [Bool.and_eq_true] at hc
    obtain ⟨⟨⟨c1, c2⟩, c3⟩, c4⟩ := hc
    have B := Bef.of c1
    generalize hp : preLen E ops = p at *
    have hpl : p ≤ ops.length := hp ▸ preLen_le E ops
    have htl : (ops.take p).length = p := by simp; omega
    have hpt : ∀ k, k < (ops.take p).length → ∀ g, visB bef g k = true → g < k := fun k hk g hv => B.lt k g (by omega) hv
    obtain ⟨vs, bs, hsteps, hf⟩ := runPre_spec ok hpt (ops.take p) 0 (fun _ => .undef) (fun _ => []) rfl (Nat.zero_le _) (fun j hj => by omega) h
    rw [htl] at hsteps hf
    have hrest : ∀ i, p ≤ i → i < ops.length → ∀ j, j < i → visB bef j i = true := fun i h1 h2 => restOk_spec c4 i h1 (by omega)
    have hsz : (Array.replicate ops.toArray.size false).size = ops.length := by simp
    have hf0 : ∀ j, (Array.replicate ops.toArray.size false).getD j false = false := fun j => getD_replicate_false _ j
    have hlen : ops.toArray.size = ops.length := by simp
    have := pre_any (P := P) (Q := Q) (w0 := w0) (S := S) B hpl hsteps (fun i i' t _ _ => dsts_dist c2) (fun j hj => by
        cases hd : dstOf (ops.take p) j with
        | none => rfl
        | some d =>
          unfold dstOf at hd
          cases ho : (ops.take p)[j]? with
          | none => rw [ho] at hd; cases hd
          | some o =>
            rw [ho] at hd
            have := List.all_eq_true.1 c3 o (List.mem_of_getElem? ho)
            simp only [Option.bind_some] at hd
            rwa [hd] at this) hrest
      (fun listed a' w' m' H' F' hu hr' => by
        have := rest_any (n := st.n) ok B hrest hQ (ops.drop p) p listed { st with fr := entsFr (fun _ => true) (entN (dstOf (ops.take p)) vs p) ++ st.fr, loc := locN st.loc bs p } a' w' m' H' F' rfl (Nat.le_refl _) hpl hu rfl hf hr'
        rwa [List.length_drop] at this)
      _ (ops.toArray.size) (Array.replicate ops.toArray.size false) a { w with drawn := w.drawn + 1 } m H F hsz (fun j _ _ => hf0 j) rfl ?_ (fun j _ hj => by rw [hf0 j] at hj; cases hj) (PInv.init (hr.drawn _) hf0)
    · exact this
    · have : ∀ n, cntB (fun j => !(Array.replicate ops.toArray.size false).getD j false) n = n := by
        intro n
        induction n with
        | zero => rfl
        | succ n ih => simp only [cntB, ih, hf0 n]; rfl
      rw [this]
      omega

end regions
end
end Go.Fw
