/- Regions whose order is open: the machine's orders. No condition. -/
import Derived.Test.YtcbpdhhipkdofaaFwReg3
namespace Go.Fw

theorem maskN_all {V : Nat → Bool} (l : List Blk) (bs : Nat → List Blk) : ∀ {n : Nat}, (∀ i, i < n → V i = true) → maskN V l bs n = locN l bs n
  | 0, _ => rfl
  | n + 1, h => by
    simp only [maskN, locN]
    rw [maskN_all l bs fun i hi => h i (by omega), h n (by omega)]; rfl

def cntB (f : Nat → Bool) : Nat → Nat
  | 0 => 0
  | n + 1 => cntB f n + (if f n = true then 1 else 0)

theorem cntB_zero {f : Nat → Bool} : ∀ {n : Nat}, cntB f n = 0 → ∀ i, i < n → f i = false
  | n + 1, h, i, hi => by
    simp only [cntB] at h
    by_cases e : i = n
    · subst e
      cases hf : f i
      · rfl
      · rw [hf] at h; simp at h
    · exact cntB_zero (n := n) (by omega) i (by omega)

theorem cntB_first {f : Nat → Bool} : ∀ {n c : Nat}, cntB f n = c + 1 → ∃ j, j < n ∧ f j = true ∧ ∀ i, i < j → f i = false
  | 0, c, h => by cases h
  | n + 1, c, h => by
    cases hc : cntB f n with
    | zero =>
      simp only [cntB, hc] at h
      refine ⟨n, by omega, ?_, cntB_zero hc⟩
      cases hf : f n
      · rw [hf] at h; simp at h
      · rfl
    | succ c' =>
      obtain ⟨j, h1, h2⟩ := cntB_first hc
      exact ⟨j, by omega, h2⟩

theorem cntB_same {f g : Nat → Bool} : ∀ {n : Nat}, (∀ j, j < n → g j = f j) → cntB g n = cntB f n
  | 0, _ => rfl
  | n + 1, h => by
    simp only [cntB]
    rw [cntB_same fun j hj => h j (by omega), h n (by omega)]

theorem cntB_set {f g : Nat → Bool} {i : Nat} (hf : f i = true) (hg : g i = false) (he : ∀ j, j ≠ i → g j = f j) : ∀ {n : Nat}, i < n → cntB f n = cntB g n + 1
  | n + 1, h => by
    simp only [cntB]
    by_cases e : i = n
    · subst e
      rw [hf, hg, cntB_same (f := f) (g := g) fun j hj => he j (by omega)]
      simp
    · rw [cntB_set hf hg he (n := n) (by omega), he n (Ne.symm e)]
      omega

section
variable {P : Program} {ops : List Oper} {bef : List Nat} {st : St} {vs : Nat → FV} {bs : Nat → List Blk} {p : Nat} {w0 : W0} {S : Nat → Prop} {m : Nat → Nat} {H : Nat → Value} {F : Nat → Nat → Prop} {X : Nat → Bool} {a : Act} {w : World}

theorem PInv.at (B : Bef ops bef) (hp : p ≤ ops.length) (h : PInv st (dstOf (ops.take p)) vs bs bef p w0 S X m H F a w) {k : Nat} (hk : k < p) (hXk : X k = false) (hcl : ∀ j, j < p → X j = true → ∀ i, visB bef i j = true → X i = true)
    (hpre : ∀ j, visB bef j k = true → X j = true) (hdist : ∀ i i' t, i < p → i' < p → dstOf (ops.take p) i = some t → dstOf (ops.take p) i' = some t → i = i') :
    Rel w0 S m H F (stAt bef (ops.take p) st (locN st.loc bs k) { ents := entN (dstOf (ops.take p)) vs k, tags := tagN st.loc bs k } k) a w := by
  have hvlt : ∀ i j, j < p → visB bef i j = true → i < j := fun i j hj hv => B.lt j i (by omega) hv
  have := h.part (V := fun i => visB bef i k) (n := k) (fr := entsFr (fun j => visB bef j k) (entN (dstOf (ops.take p)) vs k) ++ baseFr (hiddenT bef k 0 (ops.take p)) st.fr)
    (fun i hi hv => ⟨hpre i hv, by omega⟩)
    (fun j hj hv i hi hv' => by
      rw [Bool.or_eq_true] at hv'
      rcases hv' with hv' | hv'
      · exact ⟨B.trans k i j (by omega) hv' hv, by omega⟩
      · have := Nat.eq_of_beq_eq_true hv'
        subst this
        exact ⟨hv, by omega⟩)
    (fun t => by
      by_cases he : ∃ i, i < k ∧ visB bef i k = true ∧ dstOf (ops.take p) i = some t
      · obtain ⟨i, h1, h2, h3⟩ := he
        exact .inl ⟨i, h1, h2, h3, look_ents_some h1 h2 h3 fun i' hi' hd => hdist i' i t (by omega) (by omega) hd h3⟩
      · refine .inr ?_
        have hnone : ∀ i, i < k → visB bef i k = true → dstOf (ops.take p) i ≠ some t := fun i h1 h2 h3 => he ⟨i, h1, h2, h3⟩
        rw [look_ents_none hnone, look_base]
        cases hm : memB (hiddenT bef k 0 (ops.take p)) t
        · refine .inr ⟨rfl, fun j hj hx hd => ?_⟩
          have hjk : j ≠ k := fun e => by subst e; rw [hXk] at hx; cases hx
          have h1 : visB bef j k = false := by
            cases hv : visB bef j k
            · rfl
            · exact absurd hd (hnone j (hvlt j k hk hv) hv)
          have h2 : visB bef k j = false := by
            cases hv : visB bef k j
            · rfl
            · have := hcl j hj hx k hv; rw [hXk] at this; cases this
          obtain ⟨o, ho, hd'⟩ : ∃ o, (ops.take p)[j]? = some o ∧ o.dst = some t := by
            unfold dstOf at hd
            cases ho : (ops.take p)[j]? with
            | none => rw [ho] at hd; cases hd
            | some o => rw [ho] at hd; exact ⟨o, rfl, hd⟩
          have := hidden_mem (bef := bef) (k := k) (t := t) (l := ops.take p) (i := 0) (j := j) ho hd' (by omega) (by rw [Nat.zero_add]; exact h1) (by rw [Nat.zero_add]; exact h2)
          rw [hm] at this; cases this
        · exact .inl rfl)
  rw [← maskLoc_eq] at this
  exact this

theorem bool_val {Γ : Ctx} {b : Bool} {v : Value} (h : fvRel Γ (.v (.one (.bool b))) v) : v = .bool b := h

theorem yielded_of {ops : List Oper} {g : Nat} {d : Tmp} {tmps : Array Value} {b : Bool} (hd : dstOf ops g = some d) (hv : tmps.getD d undef = .bool b) : yielded ops.toArray tmps g = some b := by
  unfold dstOf at hd
  unfold yielded
  have e : (ops.toArray[g]?).bind (·.dst) = some d := by simpa using hd
  rw [e]
  simp only [Option.bind_some]
  cases ht : tmps[d]? with
  | none =>
    rw [Array.getD_eq_getD_getElem?, ht] at hv
    cases hv
  | some u =>
    rw [Array.getD_eq_getD_getElem?, ht] at hv
    simp at hv
    subst hv
    rfl

theorem not_wanted {ops : List Oper} {g : Nat} {d : Tmp} {tmps : Array Value} {want : Bool} {Γ : Ctx} {v : FV} (hd : dstOf ops g = some d) (hs : skipV want v) (hv : fvRel Γ v (tmps.getD d undef)) : (yielded ops.toArray tmps g == some want) = false := by
  rcases hs with ⟨b, rfl, hb⟩ | rfl
  · rw [yielded_of hd (bool_val hv)]
    cases b <;> cases want <;> simp_all
  · obtain ⟨vs, hv, hn⟩ := hv
    have hy : yielded ops.toArray tmps g = none := by
      unfold dstOf at hd
      unfold yielded
      have e : (ops.toArray[g]?).bind (·.dst) = some d := by simpa using hd
      rw [e]
      simp only [Option.bind_some]
      cases ht : tmps[d]? with
      | none => rfl
      | some u =>
        rw [Array.getD_eq_getD_getElem?, ht] at hv
        simp at hv
        subst hv
        rfl
    rw [hy]; rfl

theorem dstOf_take {g : Nat} {d : Tmp} (h : dstOf (ops.take p) g = some d) : dstOf ops g = some d := by
  unfold dstOf at *
  rw [List.getElem?_take] at h
  split at h
  · exact h
  · cases h

structure Upto (n q : Nat) (listed : Array Bool) : Prop where
  size : listed.size = n
  lst : ∀ j, j < n → listed.getD j false = decide (j < q)

variable {Q : Exit → Act → World → Prop}

theorem pre_any (B : Bef ops bef) (hp : p ≤ ops.length) (steps : ∀ j, j < p → StepOK P (ops.take p) bef st vs bs j) (hdist : ∀ i i' t, i < p → i' < p → dstOf (ops.take p) i = some t → dstOf (ops.take p) i' = some t → i = i')
    (hdok : ∀ j, j < p → dstOk st.n (dstOf (ops.take p) j) = true) (hrest : ∀ i, p ≤ i → i < ops.length → ∀ j, j < i → visB bef j i = true)
    (hend : ∀ listed a w m H F, Upto ops.length p listed → Rel w0 S m H F { st with fr := entsFr (fun _ => true) (entN (dstOf (ops.take p)) vs p) ++ st.fr, loc := locN st.loc bs p } a w → wpAny P .any ops.toArray Q (ops.length - p) listed a w) :
    ∀ (c fuel : Nat) (listed : Array Bool) (a : Act) (w : World) (m : Nat → Nat) (H : Nat → Value) (F : Nat → Nat → Prop), listed.size = ops.length → (∀ j, p ≤ j → j < ops.length → listed.getD j false = false) → cntB (fun j => !listed.getD j false) p = c → fuel = c + (ops.length - p) →
      (∀ j, j < ops.length → listed.getD j false = true → ∀ i, visB bef i j = true → listed.getD i false = true) → PInv st (dstOf (ops.take p)) vs bs bef p w0 S (fun j => listed.getD j false) m H F a w → wpAny P .any ops.toArray Q fuel listed a w
  | 0, fuel, listed, a, w, m, H, F, hsz, hun, hc, hfu, hcl, h => by
    have hall : ∀ j, j < p → listed.getD j false = true := fun j hj => by simpa using cntB_zero hc j hj
    rw [hfu, Nat.zero_add]
    refine hend listed a w m H F ⟨hsz, fun j hj => ?_⟩ ?_
    · rcases Nat.lt_or_ge j p with h1 | h1
      · rw [hall j h1]; simp [h1]
      · rw [hun j h1 hj]; simp; omega
    · have := h.part (V := fun _ => true) (n := p) (fr := entsFr (fun _ => true) (entN (dstOf (ops.take p)) vs p) ++ st.fr) (fun i hi _ => ⟨hall i hi, hi⟩) (fun j hj _ i hi _ => ⟨rfl, by omega⟩)
        (fun t => by
          by_cases he : ∃ i, i < p ∧ dstOf (ops.take p) i = some t
          · obtain ⟨i, h1, h3⟩ := he
            exact .inl ⟨i, h1, rfl, h3, look_ents_some h1 rfl h3 fun i' hi' hd => hdist i' i t hi' h1 hd h3⟩
          · exact .inr (.inr ⟨look_ents_none fun i h1 _ h3 => he ⟨i, h1, h3⟩, fun j hj _ hd => he ⟨j, hj, hd⟩⟩))
      rwa [maskN_all st.loc bs fun _ _ => rfl] at this
  | c + 1, fuel, listed, a, w, m, H, F, hsz, hun, hc, hfu, hcl, h => by
    obtain ⟨j0, hj0, hf0, hlow⟩ := cntB_first hc
    have hj0f : listed.getD j0 false = false := by simpa using hf0
    have hready : ∀ i o, ops[i]? = some o → (∀ e ∈ o.after, Region.binds .any e = true → listed.getD e.on false = true) → ∀ j, visB bef j i = true → listed.getD j false = true := fun i o ho he =>
      B.ready (X := fun j => listed.getD j false = true) (fun k hk j hj => by
        rcases Nat.lt_or_ge k ops.length with h1 | h1
        · exact hcl k h1 hk j hj
        · exfalso
          have : listed.getD k false = false := by simp [Array.getElem?_eq_none (show listed.size ≤ k by omega)]
          rw [this] at hk; cases hk) ho (fun e hm hb => he e (by simpa using hm) hb)
    have hfu' : fuel = (c + (ops.length - p)) + 1 := by omega
    subst hfu'
    refine ⟨fun h0 => ?_, fun i hi => ?_⟩
    · exfalso
      have hlt : j0 < ops.length := by omega
      have : j0 ∈ Region.ready .any ops.toArray listed := by
        refine mem_ready.2 ⟨getD_in (by omega) hj0f, ops[j0], by simp [hlt], fun e he hb => ?_⟩
        have hup := B.up j0 _ (List.getElem?_eq_getElem hlt) e (by simpa using he) hb
        have := hlow e.on hup
        simpa using this
      rw [h0] at this
      cases this
    · obtain ⟨hi1, o, ho, hall⟩ := mem_ready.1 hi
      have ho' : ops[i]? = some o := by simpa using ho
      have hi2 := getD_both hi1
      have hpre := hready i o ho' hall
      have hilt : i < ops.length := (List.getElem?_eq_some_iff.1 ho').1
      have hip : i < p := by
        rcases Nat.lt_or_ge i p with h1 | h1
        · exact h1
        · have := hpre j0 (hrest i h1 hilt j0 (by omega))
          rw [hj0f] at this; cases this
      have hpo : (ops.take p)[i]? = some o := by rw [List.getElem?_take, if_pos hip]; exact ho'
      have hcl' : ∀ j, j < p → listed.getD j false = true → ∀ i, visB bef i j = true → listed.getD i false = true := fun j hj => hcl j (by omega)
      have hrel := h.at B hp hip hi2 hcl' hpre hdist
      have hset : ∀ j, (listed.setIfInBounds i true).getD j false = true ↔ listed.getD j false = true ∨ j = i := fun j => by
        by_cases e : j = i
        · subst e
          have : j < listed.size := by omega
          simp [this]
        · rw [getD_set_ne false (Ne.symm e)]; simp [e]
      have cont : ∀ v' w' m' H' F', Ext w w' → Fresh S m H F (maskN (fun j => visB bef j i) st.loc bs i) w w' (vs i) v' (bs i) m' H' F' → wpAny P .any ops.toArray Q (c + (ops.length - p)) (listed.setIfInBounds i true) (a.put o.dst v') w' := by
        intro v' w' m' H' F' he hf
        have hdi : dstOf (ops.take p) i = o.dst := by simp [dstOf, hpo]
        obtain ⟨m'', H'', F'', hst⟩ := h.step (X' := fun j => (listed.setIfInBounds i true).getD j false) hip hi2 hset hcl' hpre hdist (hdok i hip) he hf
        rw [hdi] at hst
        refine pre_any B hp steps hdist hdok hrest hend c _ _ _ _ m'' H'' F'' (by simp [hsz]) (fun j h1 h2 => ?_) ?_ rfl (fun j hj hl i' hv => ?_) hst
        · rw [getD_set_ne false (by omega)]; exact hun j h1 h2
        · have := cntB_set (f := fun j => !listed.getD j false) (g := fun j => !(listed.setIfInBounds i true).getD j false) (i := i) (by simp only [hi2]; rfl) (by simp only [(hset i).2 (.inr rfl)]; rfl) (fun j hj => by show (!(listed.setIfInBounds i true).getD j false) = !listed.getD j false; rw [getD_set_ne false (Ne.symm hj)]) hip
          omega
        · rcases (hset j).1 hl with h1 | rfl
          · exact (hset i').2 (.inl (hcl j hj h1 i' hv))
          · exact (hset i').2 (.inl (hpre i' hv))
      unfold wpOp
      simp only [ho]
      obtain ⟨o', ho2, hs⟩ := steps i hip
      rw [hpo] at ho2
      cases ho2
      have tmpg : ∀ (g : Nat) (b : Bool) (d : Tmp), visB bef g i = true → dstOf (ops.take p) g = some d → vs g = .v (.one (.bool b)) → yielded ops.toArray a.tmps g = some b := by
        intro g b d hv hd hvs
        have := h.tmpE g (by have := B.lt i g hilt hv; omega) (hpre g hv) d hd
        rw [hvs] at this
        exact yielded_of (dstOf_take hd) (bool_val this)
      rcases hs with ⟨hg, hpure⟩ | ⟨g, want, h1, h2, ⟨d, h3⟩, h4, h6, h7⟩
      · have hw : Region.wanted o (yielded ops.toArray a.tmps) = true := by
          unfold Region.wanted
          split at hg
          · rename_i hgu; rw [hgu]
          · rename_i g want hgu
            obtain ⟨g1, ⟨d, g2⟩, g3⟩ := hg
            rw [hgu]
            simp only [tmpg g want d g1 g2 g3]
            simp
        rw [if_pos hw]
        refine .inl (hpure w0 S m H F a w hrel _ Q fun v' w' m' H' F' he hf => ?_)
        refine cont v' w' m' H' F' he ?_
        have e : (stAt bef (ops.take p) st (locN st.loc bs i) { ents := entN (dstOf (ops.take p)) vs i, tags := tagN st.loc bs i } i).loc = maskN (fun j => visB bef j i) st.loc bs i := maskLoc_eq _ _ _ _
        rw [← e]; exact hf
      · have hw : Region.wanted o (yielded ops.toArray a.tmps) = false := by
          unfold Region.wanted
          rw [h1]
          exact not_wanted (dstOf_take h3) h4 (h.tmpE g (by have := B.lt i g hilt h2; omega) (hpre g h2) d h3)
        rw [if_neg (by rw [hw]; simp)]
        refine cont undef w m H F (Ext.refl w) ?_
        rw [h6, h7]
        exact ⟨fun _ _ => ⟨rfl, rfl, rfl⟩, ⟨#[], rfl, .nil⟩, fun j k hj => by simp at hj, fun j j' _ hj => by simp at hj, fun j τ xs hj => by simp at hj⟩

end
end Go.Fw
