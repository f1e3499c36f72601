/- Regions whose order is open: the state between two operations, in whatever order. No condition. -/
import Derived.Test.YtcbpdhhipkdofaaFwReg
namespace Go.Fw

/-! ### what a tmp holds -/
theorem look_ents_some {dst : Nat → Option Tmp} {vs : Nat → FV} {V : Nat → Bool} {base : List (Nat × FV)} {t : Nat} : ∀ {n i : Nat}, i < n → V i = true → dst i = some t → (∀ i', i' < n → dst i' = some t → i' = i) →
    look (entsFr V (entN dst vs n) ++ base) t = vs i
  | 0, _, h, _, _, _ => by omega
  | n + 1, i, h, hv, hd, hu => by
    simp only [entN]
    cases hn : dst n with
    | none =>
      have hne : i ≠ n := fun e => by subst e; rw [hd] at hn; cases hn
      simp only [entsFr]
      exact look_ents_some (by omega) hv hd fun i' hi' => hu i' (by omega)
    | some d =>
      by_cases e : i = n
      · subst e
        rw [hd] at hn
        cases hn
        simp [entsFr, hv, look]
      · have hdt : d ≠ t := fun e' => by subst e'; exact e (hu n (by omega) hn).symm
        have ih := look_ents_some (base := base) (vs := vs) (show i < n by omega) hv hd fun i' hi' => hu i' (by omega)
        simp only [entsFr]
        cases V n
        · exact ih
        · have hb : Nat.beq d t = false := by
            cases hb : Nat.beq d t
            · rfl
            · exact absurd (Nat.eq_of_beq_eq_true hb) hdt
          simp only [cond_true, List.cons_append, look, hb, cond_false]
          exact ih

theorem look_ents_none {dst : Nat → Option Tmp} {vs : Nat → FV} {V : Nat → Bool} {base : List (Nat × FV)} {t : Nat} : ∀ {n : Nat}, (∀ i, i < n → V i = true → dst i ≠ some t) → look (entsFr V (entN dst vs n) ++ base) t = look base t
  | 0, _ => rfl
  | n + 1, h => by
    have ih := look_ents_none (n := n) (base := base) (vs := vs) fun i hi hv => h i (by omega) hv
    simp only [entN]
    cases hn : dst n with
    | none => exact ih
    | some d =>
      simp only [entsFr]
      cases hv : V n
      · exact ih
      · have hdt : d ≠ t := fun e => h n (by omega) hv (by rw [hn, e])
        have hb : Nat.beq d t = false := by
          cases hb : Nat.beq d t
          · rfl
          · exact absurd (Nat.eq_of_beq_eq_true hb) hdt
        simp only [cond_true, List.cons_append, look, hb, cond_false]
        exact ih

theorem look_base (hid : List Nat) (t : Nat) : ∀ fr : List (Nat × FV), look (baseFr hid fr) t = bif memB hid t then .undef else look fr t
  | [] => by cases h : memB hid t <;> simp [baseFr, look]
  | (d, v) :: r => by
    simp only [baseFr]
    cases hd : memB hid d
    · simp only [cond_false, look]
      cases hb : Nat.beq d t
      · exact look_base hid t r
      · have := Nat.eq_of_beq_eq_true hb
        subst this
        rw [hd]; rfl
    · simp only [cond_true, look]
      rw [look_base hid t r]
      cases hb : Nat.beq d t
      · rfl
      · have := Nat.eq_of_beq_eq_true hb
        subst this
        rw [hd]; rfl

theorem hidden_mem {bef : List Nat} {k t : Nat} : ∀ {l : List Oper} {i j : Nat} {o : Oper}, l[j]? = some o → o.dst = some t → i + j ≠ k → visB bef (i + j) k = false → visB bef k (i + j) = false → memB (hiddenT bef k i l) t = true
  | [], i, j, o, h, _, _, _, _ => by simp at h
  | x :: r, i, 0, o, h, hd, h1, h2, h3 => by
    simp at h
    subst h
    have hb : Nat.beq i k = false := by
      cases hb : Nat.beq i k
      · rfl
      · exact absurd (Nat.eq_of_beq_eq_true hb) h1
    simp only [hiddenT, hd]
    rw [Nat.add_zero] at h2 h3
    rw [hb, h2, h3]
    simp [memB]
  | x :: r, i, j + 1, o, h, hd, h1, h2, h3 => by
    have ih := hidden_mem (bef := bef) (k := k) (i := i + 1) (l := r) (j := j) (by simpa using h) hd (by omega) (by rw [show i + 1 + j = i + (j + 1) by omega]; exact h2) (by rw [show i + 1 + j = i + (j + 1) by omega]; exact h3)
    simp only [hiddenT]
    cases x.dst with
    | none => exact ih
    | some d =>
      simp only []
      cases Nat.beq i k || visB bef i k || visB bef k i
      · simp only [cond_false, memB, Bool.or_eq_true]; exact .inr ih
      · exact ih

theorem entAt_entN' {dst : Nat → Option Tmp} {vs : Nat → FV} {j : Nat} {v : FV} (hne : v ≠ .undef) : ∀ {n : Nat}, entAt j (entN dst vs n) = v → j < n ∧ (∃ d, dst j = some d) ∧ vs j = v
  | 0, h => (hne h.symm).elim
  | n + 1, h => by
    simp only [entN] at h
    cases hd : dst n with
    | none =>
      rw [hd] at h
      obtain ⟨h1, h2⟩ := entAt_entN' hne (n := n) h
      exact ⟨by omega, h2⟩
    | some d =>
      rw [hd] at h
      simp only [entAt] at h
      cases hb : Nat.beq n j
      · rw [hb] at h
        obtain ⟨h1, h2⟩ := entAt_entN' hne (n := n) h
        exact ⟨by omega, h2⟩
      · rw [hb] at h
        have := Nat.eq_of_beq_eq_true hb
        subst this
        exact ⟨by omega, ⟨d, hd⟩, h⟩

theorem entAt_entN {dst : Nat → Option Tmp} {vs : Nat → FV} {j : Nat} {b : Bool} : ∀ {n : Nat}, entAt j (entN dst vs n) = .v (.one (.bool b)) → j < n ∧ (∃ d, dst j = some d) ∧ vs j = .v (.one (.bool b))
  | _, h => entAt_entN' (by simp) h

theorem learnE_eq {j : Nat} {b : Bool} : ∀ {l : List (Nat × Option Tmp × FV)}, entAt j l = .v (.one (.bool b)) → learnE j b l = l
  | [], _ => rfl
  | (i, none, v) :: r, h => by simp only [learnE]; rw [learnE_eq (l := r) h]
  | (i, some d, v) :: r, h => by
    simp only [entAt] at h
    simp only [learnE]
    cases hb : Nat.beq i j
    · rw [hb] at h; simp only [cond_false]; rw [learnE_eq (l := r) h]
    · rw [hb] at h
      simp only [cond_true] at h ⊢
      rw [h]

/-! ### the state between two operations -/
def ctxN (bef : List Nat) (l : List Blk) (bs : Nat → List Blk) (j : Nat) : List Blk := maskN (fun i => visB bef i j || Nat.beq i j) l bs (j + 1)

structure PInv (st : St) (dst : Nat → Option Tmp) (vs : Nat → FV) (bs : Nat → List Blk) (bef : List Nat) (p : Nat) (w0 : W0) (S : Nat → Prop) (X : Nat → Bool) (m : Nat → Nat) (H : Nat → Value) (F : Nat → Nat → Prop) (a : Act) (w : World) : Prop where
  size : a.tmps.size = st.n
  defers : a.defers = []
  tmpE : ∀ j, j < p → X j = true → ∀ d, dst j = some d → fvRel ⟨w.heap, S, m, H, F, ctxN bef st.loc bs j⟩ (vs j) (a.tmps.getD d undef)
  tmp0 : ∀ t, (∀ j, j < p → X j = true → dst j ≠ some t) → fvRel ⟨w.heap, S, m, H, F, st.loc⟩ (look st.fr t) (a.tmps.getD t undef)
  blkE : ∀ j, j < p → X j = true → ∀ i k, (bs j)[i]? = some k → blkRel ⟨w.heap, S, m, H, F, ctxN bef st.loc bs j⟩ ((locN st.loc bs j).length + i) k
  blk0 : ∀ b k, st.loc[b]? = some k → blkRel ⟨w.heap, S, m, H, F, st.loc⟩ b k
  own : ∀ b k, (maskN X st.loc bs p)[b]? = some k → k.alive = true → ∀ c, F b c → c < w.heap.size ∧ ¬ S c
  disj : ∀ b b' k k', (maskN X st.loc bs p)[b]? = some k → (maskN X st.loc bs p)[b']? = some k' → k.alive = true → k'.alive = true → b ≠ b' → ∀ c, F b c → ¬ F b' c
  stab : ∀ c, S c → c < w0.heap.size ∧ w.heap[c]? = w0.heap[c]?
  grow : w0.heap.size ≤ w.heap.size
  os : w.os = w0.os
  tape : w.tape = w0.tape
  output : w.output = w0.output
  pin : ∀ b τ xs, (maskN X st.loc bs p)[b]? = some (.row true τ xs) → H b = w0.lent b

section inv
variable {P : Program} {st : St} {dst : Nat → Option Tmp} {vs : Nat → FV} {bs : Nat → List Blk} {bef : List Nat} {p : Nat} {w0 : W0} {S : Nat → Prop} {X : Nat → Bool} {m : Nat → Nat} {H : Nat → Value} {F : Nat → Nat → Prop} {a : Act} {w : World}

theorem PInv.init (h : Rel w0 S m H F st a w) (hX : ∀ j, X j = false) : PInv st dst vs bs bef p w0 S X m H F a w := by
  have hsub : ∀ b (k : Blk), (maskN X st.loc bs p)[b]? = some k → k.alive = true → st.loc[b]? = some k := fun b k hk ha => by
    rcases maskN_inv hk ha with ⟨_, h1⟩ | ⟨i, j, _, h2, _⟩
    · exact h1
    · rw [hX] at h2; cases h2
  exact ⟨h.size, h.defers, fun j _ hj => by (rw [hX] at hj; cases hj), fun t _ => h.fr t, fun j _ hj => by (rw [hX] at hj; cases hj), h.blk, fun b k hk ha => h.own b k (hsub b k hk ha) ha,
    fun b b' k k' hk hk' ha ha' => h.disj b b' k k' (hsub b k hk ha) (hsub b' k' hk' ha') ha ha', h.stab, h.grow, h.os, h.tape, h.output, fun b τ xs hb => h.pin b τ xs (hsub b _ hb rfl)⟩

theorem PInv.S_lt (h : PInv st dst vs bs bef p w0 S X m H F a w) : ∀ c, S c → c < w.heap.size := fun c hc => Nat.lt_of_lt_of_le (h.stab c hc).1 h.grow

/-- A part of what is there is a state. -/
theorem PInv.part (h : PInv st dst vs bs bef p w0 S X m H F a w) {V : Nat → Bool} {n : Nat} {fr : List (Nat × FV)} (hV : ∀ i, i < n → V i = true → X i = true ∧ i < p) (hcl : ∀ j, j < n → V j = true → ∀ i, i < j + 1 → (visB bef i j || Nat.beq i j) = true → V i = true ∧ i < n)
    (hfr : ∀ t, (∃ i, i < n ∧ V i = true ∧ dst i = some t ∧ look fr t = vs i) ∨ look fr t = .undef ∨ (look fr t = look st.fr t ∧ ∀ j, j < p → X j = true → dst j ≠ some t)) :
    Rel w0 S m H F { st with fr := fr, loc := maskN V st.loc bs n } a w := by
  have hsub : Sub (maskN V st.loc bs n) (maskN X st.loc bs p) := maskN_sub st.loc bs hV
  have hF : ∀ b (k : Blk), (maskN V st.loc bs n)[b]? = some k → k.alive = true → ∀ c, F b c → c < w.heap.size := fun b k hk ha c hc => (h.own b k (hsub b k hk ha) ha c hc).1
  have ME : ∀ j, j < n → V j = true → Moves ⟨w.heap, S, m, H, F, ctxN bef st.loc bs j⟩ ⟨w.heap, S, m, H, F, maskN V st.loc bs n⟩ [] [] := fun j hj hv => by
    have hs : Sub (ctxN bef st.loc bs j) (maskN V st.loc bs n) := maskN_sub st.loc bs (hcl j hj hv)
    exact Moves.sub h.S_lt (fun b k hk ha => hF b k (hs b k hk ha) ha) (Ext.refl w) hs fun _ _ _ _ => ⟨rfl, rfl, rfl⟩
  have M0 : Moves ⟨w.heap, S, m, H, F, st.loc⟩ ⟨w.heap, S, m, H, F, maskN V st.loc bs n⟩ [] [] := by
    have hs : Sub st.loc (maskN V st.loc bs n) := maskN_base st.loc bs n
    exact Moves.sub h.S_lt (fun b k hk ha => hF b k (hs b k hk ha) ha) (Ext.refl w) hs fun _ _ _ _ => ⟨rfl, rfl, rfl⟩
  refine ⟨h.size, h.defers, fun t => ?_, fun b k hk => ?_, fun b k hk ha => h.own b k (hsub b k hk ha) ha, fun b b' k k' hk hk' ha ha' => h.disj b b' k k' (hsub b k hk ha) (hsub b' k' hk' ha') ha ha', h.stab, h.grow, h.os, h.tape, h.output, fun b τ xs hb => h.pin b τ xs (hsub b _ hb rfl)⟩
  · show fvRel _ (look fr t) _
    rcases hfr t with ⟨i, hi, hv, hd, e⟩ | e | ⟨e, hn⟩
    · rw [e]
      exact (h.tmpE i (hV i hi hv).2 (hV i hi hv).1 t hd).same (ME i hi hv)
    · rw [e]; trivial
    · rw [e]; exact (h.tmp0 t hn).same M0
  · cases ha : k.alive
    · cases k <;> simp [Blk.alive] at ha; trivial
    · rcases maskN_inv hk ha with ⟨_, h1⟩ | ⟨i, j, hi, hv, rfl, hb⟩
      · exact blkRel.same' M0 (h.blk0 b k h1) (fun _ => ⟨rfl, rfl, rfl⟩) (fun _ _ _ => rfl) rfl
      · exact blkRel.same' (ME i hi hv) (h.blkE i (hV i hi hv).2 (hV i hi hv).1 j k hb) (fun _ => ⟨rfl, rfl, rfl⟩) (fun _ _ _ => rfl) rfl

theorem ctxN_eq (k : Nat) (l : List Blk) : ctxN bef l bs k = maskN (fun i => visB bef i k) l bs k ++ bs k := by
  simp only [ctxN, maskN, Nat.beq_refl, Bool.or_true, cond_true]
  congr 1
  refine maskN_congr l fun i hi => ⟨?_, rfl⟩
  have : Nat.beq i k = false := by
    cases hb : Nat.beq i k
    · rfl
    · have := Nat.eq_of_beq_eq_true hb; omega
  simp [this]

/-- One more operation has been made. -/
theorem PInv.step (h : PInv st dst vs bs bef p w0 S X m H F a w) {k : Nat} {w' : World} {v' : Value} {m' : Nat → Nat} {H' : Nat → Value} {F' : Nat → Nat → Prop} {X' : Nat → Bool} (hk : k < p) (hXk : X k = false) (hX' : ∀ j, X' j = true ↔ X j = true ∨ j = k)
    (hcl : ∀ j, j < p → X j = true → ∀ i, visB bef i j = true → X i = true) (hpre : ∀ j, visB bef j k = true → X j = true) (hdist : ∀ i i' t, i < p → i' < p → dst i = some t → dst i' = some t → i = i') (hdok : dstOk st.n (dst k) = true)
    (he : Ext w w') (hf : Fresh S m H F (maskN (fun i => visB bef i k) st.loc bs k) w w' (vs k) v' (bs k) m' H' F') :
    ∃ m'' H'' F'', PInv st dst vs bs bef p w0 S X' m'' H'' F'' (a.put (dst k) v') w' := by
  obtain ⟨f1, f2, f3, f4, f5⟩ := hf
  have eL := maskN_length (fun i => visB bef i k) st.loc bs k
  let inR : Nat → Bool := fun b => decide ((locN st.loc bs k).length ≤ b) && decide (b < (locN st.loc bs k).length + (bs k).length)
  have hinR : ∀ b, inR b = true ↔ (locN st.loc bs k).length ≤ b ∧ b < (locN st.loc bs k).length + (bs k).length := fun b => by simp [inR]
  let m'' : Nat → Nat := fun b => bif inR b then m' b else m b
  let H'' : Nat → Value := fun b => bif inR b then H' b else H b
  let F'' : Nat → Nat → Prop := fun b => bif inR b then F' b else F b
  have out : ∀ b, inR b = false → m'' b = m b ∧ H'' b = H b ∧ F'' b = F b := fun b hb => by simp [m'', H'', F'', hb]
  have inn : ∀ b, inR b = true → m'' b = m' b ∧ H'' b = H' b ∧ F'' b = F' b := fun b hb => by simp [m'', H'', F'', hb]
  have baseOut : ∀ b (q : Blk), st.loc[b]? = some q → inR b = false := fun b q hq => by
    cases hr : inR b
    · rfl
    · have h1 := (hinR b).1 hr
      have h2 := locN_mono st.loc bs (Nat.zero_le k)
      have h3 := (List.getElem?_eq_some_iff.1 hq).1
      have h4 : (locN st.loc bs 0).length = st.loc.length := rfl
      omega
  have partOut : ∀ i j (q : Blk), i ≠ k → (bs i)[j]? = some q → inR ((locN st.loc bs i).length + j) = false := fun i j q hne hq => by
    cases hr : inR ((locN st.loc bs i).length + j)
    · rfl
    · have h1 := (hinR _).1 hr
      have h3 := (List.getElem?_eq_some_iff.1 hq).1
      have := locN_apart (l := st.loc) (bs := bs) (i := i) (i' := k) (j := j) (j' := (locN st.loc bs i).length + j - (locN st.loc bs k).length) h3 (by omega) (by omega)
      exact absurd this.1 hne
  have partIn : ∀ j (q : Blk), (bs k)[j]? = some q → inR ((locN st.loc bs k).length + j) = true := fun j q hq => by
    have h3 := (List.getElem?_eq_some_iff.1 hq).1
    exact (hinR _).2 ⟨by omega, by omega⟩
  have oldF : ∀ b (q : Blk), (maskN X st.loc bs p)[b]? = some q → q.alive = true → ∀ c, F b c → c < w.heap.size := fun b q hq ha c hc => (h.own b q hq ha c hc).1
  have subX : ∀ j, j < p → X j = true → Sub (ctxN bef st.loc bs j) (maskN X st.loc bs p) := fun j hj hx => maskN_sub st.loc bs fun i hi hv => by
    rw [Bool.or_eq_true] at hv
    rcases hv with hv | hv
    · exact ⟨hcl j hj hx i hv, by omega⟩
    · have := Nat.eq_of_beq_eq_true hv
      subst this
      exact ⟨hx, hj⟩
  have aliveOut : ∀ b (q : Blk), (maskN X st.loc bs p)[b]? = some q → q.alive = true → inR b = false := fun b q hq ha => by
    rcases maskN_inv hq ha with ⟨_, h1⟩ | ⟨i, j, _, h2, rfl, h3⟩
    · exact baseOut b q h1
    · exact partOut i j q (fun e => by subst e; rw [hXk] at h2; cases h2) h3
  have ME : ∀ j, j < p → X j = true → Moves ⟨w.heap, S, m, H, F, ctxN bef st.loc bs j⟩ ⟨w'.heap, S, m'', H'', F'', ctxN bef st.loc bs j⟩ [] [] := fun j hj hx =>
    Moves.sub h.S_lt (fun b q hq ha => oldF b q (subX j hj hx b q hq ha) ha) he (Sub.refl _) fun b q hq ha => out b (aliveOut b q (subX j hj hx b q hq ha) ha)
  have M0 : Moves ⟨w.heap, S, m, H, F, st.loc⟩ ⟨w'.heap, S, m'', H'', F'', st.loc⟩ [] [] :=
    Moves.sub h.S_lt (fun b q hq ha => oldF b q (maskN_base st.loc bs p b q hq ha) ha) he (Sub.refl _) fun b q hq ha => out b (baseOut b q hq)
  have newF : ∀ j (q : Blk), (bs k)[j]? = some q → ∀ c, F' ((locN st.loc bs k).length + j) c → w.heap.size ≤ c ∧ c < w'.heap.size := fun j q hq c hc => by
    have := (f3 j q hq).2 c
    rw [eL] at this
    exact this hc
  have hctxk : ctxN bef st.loc bs k = maskN (fun i => visB bef i k) st.loc bs k ++ bs k := ctxN_eq k st.loc
  have splitk : ∀ b (q : Blk), (maskN (fun i => visB bef i k) st.loc bs k ++ bs k)[b]? = some q → q.alive = true → (inR b = false ∧ b < (locN st.loc bs k).length ∧ (maskN (fun i => visB bef i k) st.loc bs k)[b]? = some q) ∨ ∃ j, b = (locN st.loc bs k).length + j ∧ (bs k)[j]? = some q := fun b q hq ha => by
    rcases Nat.lt_or_ge b (maskN (fun i => visB bef i k) st.loc bs k).length with hlt | hge
    · rw [getElem?_append_lt hlt] at hq
      refine .inl ⟨?_, by omega, hq⟩
      cases hr : inR b
      · rfl
      · have := (hinR b).1 hr; omega
    · rw [getElem?_append_ge' hge, eL] at hq
      exact .inr ⟨b - (locN st.loc bs k).length, by omega, hq⟩
  have eqk : ∀ b (q : Blk), (maskN (fun i => visB bef i k) st.loc bs k ++ bs k)[b]? = some q → q.alive = true → m'' b = m' b ∧ H'' b = H' b ∧ F'' b = F' b := fun b q hq ha => by
    rcases splitk b q hq ha with ⟨h1, h2, h3⟩ | ⟨j, rfl, h3⟩
    · obtain ⟨g1, g2, g3⟩ := out b h1
      obtain ⟨e1, e2, e3⟩ := f1 b (by omega)
      exact ⟨g1.trans e1.symm, g2.trans e2.symm, g3.trans e3.symm⟩
    · exact inn _ (partIn j q h3)
  have subk : Sub (maskN (fun i => visB bef i k) st.loc bs k) (maskN X st.loc bs p) := maskN_sub st.loc bs fun i hi hv => ⟨hpre i hv, by omega⟩
  have kF : ∀ b (q : Blk), (maskN (fun i => visB bef i k) st.loc bs k ++ bs k)[b]? = some q → q.alive = true → ∀ c, F' b c → c < w'.heap.size := fun b q hq ha c hc => by
    rcases splitk b q hq ha with ⟨h1, h2, h3⟩ | ⟨j, rfl, h3⟩
    · rw [(f1 b (by omega)).2.2] at hc
      exact Nat.lt_of_lt_of_le (oldF b q (subk b q h3 ha) ha c hc) he.size
    · exact (newF j q h3 c hc).2
  have Mk : Moves ⟨w'.heap, S, m', H', F', maskN (fun i => visB bef i k) st.loc bs k ++ bs k⟩ ⟨w'.heap, S, m'', H'', F'', ctxN bef st.loc bs k⟩ [] [] := by
    rw [hctxk]
    exact Moves.sub (fun c hc => Nat.lt_of_lt_of_le (h.S_lt c hc) he.size) kF (Ext.refl w') (Sub.refl _) eqk
  have hsz : (a.put (dst k) v').tmps.size = a.tmps.size := by cases dst k <;> simp [Act.put]
  have putne : ∀ t, dst k ≠ some t → (a.put (dst k) v').tmps.getD t undef = a.tmps.getD t undef := fun t ht => by
    cases hd : dst k with
    | none => rfl
    | some d => exact getD_put_ne a d t v' undef fun e => ht (by rw [hd, e])
  have inv' : ∀ b (q : Blk), (maskN X' st.loc bs p)[b]? = some q → q.alive = true → (inR b = false ∧ (maskN X st.loc bs p)[b]? = some q) ∨ ∃ j, b = (locN st.loc bs k).length + j ∧ (bs k)[j]? = some q := fun b q hq ha => by
    rcases maskN_inv hq ha with ⟨_, h1⟩ | ⟨i, j, h1, h2, rfl, h3⟩
    · exact .inl ⟨baseOut b q h1, maskN_base st.loc bs p b q h1 ha⟩
    · rcases (hX' i).1 h2 with hx | rfl
      · refine .inl ⟨partOut i j q (fun e => by subst e; rw [hXk] at hx; cases hx) h3, maskN_part st.loc bs hx h1 j q h3⟩
      · exact .inr ⟨j, rfl, h3⟩
  refine ⟨m'', H'', F'', hsz.trans h.size, by cases dst k <;> exact h.defers, fun j hj hx d hd => ?_, fun t ht => ?_, fun j hj hx i q hq => ?_, fun b q hq => ?_, fun b q hq ha c hc => ?_, fun b b' q q' hq hq' ha ha' hne c hc hc' => ?_,
    fun c hc => ⟨(h.stab c hc).1, (he.heap c (h.S_lt c hc)).trans (h.stab c hc).2⟩, Nat.le_trans h.grow he.size, he.os.trans h.os, he.tape.trans h.tape, he.output.trans h.output, fun b τ xs hb => ?_⟩
  · by_cases e : j = k
    · subst e
      rw [hd]
      have hlt : d < a.tmps.size := by rw [h.size]; rw [hd] at hdok; simpa [dstOk, Nat.blt_eq] using hdok
      rw [getD_put_same a d v' undef hlt]
      exact f2.same Mk
    · have hxj : X j = true := ((hX' j).1 hx).resolve_right e
      rw [putne d fun hdk => e (hdist j k d hj hk hd hdk)]
      exact (h.tmpE j hj hxj d hd).same (ME j hj hxj)
  · rw [putne t (ht k hk ((hX' k).2 (.inr rfl)))]
    exact (h.tmp0 t fun j hj hx => ht j hj ((hX' j).2 (.inl hx))).same M0
  · by_cases e : j = k
    · subst e
      have hb := (f3 i q hq).1
      rw [eL] at hb
      refine blkRel.same' Mk hb (fun _ => ?_) (fun _ _ _ => rfl) rfl
      have := partIn i q hq
      exact inn _ this
    · have hxj : X j = true := ((hX' j).1 hx).resolve_right e
      refine blkRel.same' (ME j hj hxj) (h.blkE j hj hxj i q hq) (fun _ => out _ (partOut j i q e hq)) (fun ha c hc => ?_) rfl
      exact he.heap c (oldF _ q (maskN_part st.loc bs hxj hj i q hq) ha c hc)
  · refine blkRel.same' M0 (h.blk0 b q hq) (fun _ => out _ (baseOut b q hq)) (fun ha c hc => ?_) rfl
    exact he.heap c (oldF b q (maskN_base st.loc bs p b q hq ha) ha c hc)
  · rcases inv' b q hq ha with ⟨h1, h2⟩ | ⟨j, rfl, h3⟩
    · rw [(out b h1).2.2] at hc
      have := h.own b q h2 ha c hc
      exact ⟨Nat.lt_of_lt_of_le this.1 he.size, this.2⟩
    · rw [(inn _ (partIn j q h3)).2.2] at hc
      have := newF j q h3 c hc
      exact ⟨this.2, fun hs => by have := h.S_lt c hs; omega⟩
  · rcases inv' b q hq ha with ⟨h1, h2⟩ | ⟨j, rfl, h3⟩ <;> rcases inv' b' q' hq' ha' with ⟨h1', h2'⟩ | ⟨j', rfl, h3'⟩
    · rw [(out b h1).2.2] at hc
      rw [(out b' h1').2.2] at hc'
      exact h.disj b b' q q' h2 h2' ha ha' hne c hc hc'
    · rw [(out b h1).2.2] at hc
      rw [(inn _ (partIn j' q' h3')).2.2] at hc'
      have h5 := oldF b q h2 ha c hc
      have h6 := newF j' q' h3' c hc'
      omega
    · rw [(inn _ (partIn j q h3)).2.2] at hc
      rw [(out b' h1').2.2] at hc'
      have h5 := oldF b' q' h2' ha' c hc'
      have h6 := newF j q h3 c hc
      omega
    · rw [(inn _ (partIn j q h3)).2.2] at hc
      rw [(inn _ (partIn j' q' h3')).2.2] at hc'
      have := f4 j j' (by omega) (List.getElem?_eq_some_iff.1 h3).1 (List.getElem?_eq_some_iff.1 h3').1 c
      rw [eL] at this
      exact this hc hc'
  · rcases inv' b _ hb rfl with ⟨h1, h2⟩ | ⟨j, rfl, h3⟩
    · rw [(out b h1).2.1]; exact h.pin b τ xs h2
    · exact (f5 j τ xs h3).elim
end inv

end Go.Fw
