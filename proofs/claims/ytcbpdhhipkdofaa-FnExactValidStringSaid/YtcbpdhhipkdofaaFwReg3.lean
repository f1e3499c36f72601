/- Regions whose order is open: the walk in the order of the text, and the machine's in any order. No condition. -/
import Derived.Test.YtcbpdhhipkdofaaFwReg2
namespace Go.Fw

def dstOf (pre : List Oper) (j : Nat) : Option Tmp := (pre[j]?).bind (·.dst)

/-- The guard's operation says no, or was not wanted itself. -/
def skipV (want : Bool) (v : FV) : Prop := (∃ b, v = .v (.one (.bool b)) ∧ b ≠ want) ∨ v = .tup []

/-- What the interpreter has found for operation j. -/
def StepOK (P : Program) (pre : List Oper) (bef : List Nat) (st : St) (vs : Nat → FV) (bs : Nat → List Blk) (j : Nat) : Prop :=
  ∃ o, pre[j]? = some o ∧
    (((match o.guard with | none => True | some (g, want) => visB bef g j = true ∧ (∃ d, dstOf pre g = some d) ∧ vs g = .v (.one (.bool want))) ∧
        PureOK P o (stAt bef pre st (locN st.loc bs j) { ents := entN (dstOf pre) vs j, tags := tagN st.loc bs j } j) (vs j) (bs j)) ∨
      (∃ g want, o.guard = some (g, want) ∧ visB bef g j = true ∧ (∃ d, dstOf pre g = some d) ∧ skipV want (vs g) ∧ vs j = .tup [] ∧ bs j = []))

theorem StepOK.congr {P : Program} {pre : List Oper} {bef : List Nat} {st : St} {vs vs' : Nat → FV} {bs bs' : Nat → List Blk} {j : Nat} (h : StepOK P pre bef st vs bs j)
    (hv : ∀ i, i ≤ j → vs i = vs' i ∧ bs i = bs' i) (hlt : ∀ g, visB bef g j = true → g < j) : StepOK P pre bef st vs' bs' j := by
  obtain ⟨o, ho, h⟩ := h
  refine ⟨o, ho, ?_⟩
  rcases h with ⟨hg, hp⟩ | ⟨g, want, h1, h2, h3, h4, h6, h7⟩
  · refine .inl ⟨?_, ?_⟩
    · split
      · trivial
      · rename_i g want hgu
        rw [hgu] at hg
        obtain ⟨h1, h2, h3⟩ := hg
        exact ⟨h1, h2, by rw [← (hv g (by have := hlt g h1; omega)).1]; exact h3⟩
    · rw [← (hv j (Nat.le_refl _)).1, ← (hv j (Nat.le_refl _)).2, ← locN_congr st.loc fun i hi => (hv i (by omega)).2, ← tagN_congr st.loc fun i hi => (hv i (by omega)).2, ← entN_congr fun i hi => (hv i (by omega)).1]
      exact hp
  · exact .inr ⟨g, want, h1, h2, h3, by rw [← (hv g (by have := hlt g h2; omega)).1]; exact h4, by rw [← (hv j (Nat.le_refl _)).1]; exact h6, by rw [← (hv j (Nat.le_refl _)).2]; exact h7⟩

section pre
variable {P : Program} {E : Tabs} {R : Type} {res : R}

theorem runPre_spec (ok : EnvOK P E) {pre : List Oper} {bef : List Nat} {st : St} {f : St → Option R} (hlt : ∀ k, k < pre.length → ∀ g, visB bef g k = true → g < k) :
    ∀ (r : List Oper) (k : Nat) (vs : Nat → FV) (bs : Nat → List Blk), pre.drop k = r → k ≤ pre.length → (∀ j, j < k → StepOK P pre bef st vs bs j) →
      runPre E bef pre st r k (locN st.loc bs k) { ents := entN (dstOf pre) vs k, tags := tagN st.loc bs k } f = some res →
      ∃ vs bs, (∀ j, j < pre.length → StepOK P pre bef st vs bs j) ∧ f { st with fr := entsFr (fun _ => true) (entN (dstOf pre) vs pre.length) ++ st.fr, loc := locN st.loc bs pre.length } = some res
  | [], k, vs, bs, hd, hkl, hs, h => by
    have hk : pre.length ≤ k := List.drop_eq_nil_iff.1 hd
    have e : k = pre.length := by omega
    subst e
    exact ⟨vs, bs, hs, h⟩
  | o :: r, k, vs, bs, hd, hkl, hs, h => by
    have ho : pre[k]? = some o := by
      have : (pre.drop k)[0]? = some o := by rw [hd]; rfl
      rwa [List.getElem?_drop, Nat.add_zero] at this
    have hkp : k < pre.length := (List.getElem?_eq_some_iff.1 ho).1
    have hd' : pre.drop (k + 1) = r := by rw [← List.drop_drop, hd]; rfl
    have hdk : dstOf pre k = o.dst := by simp [dstOf, ho]
    have self : ∀ (v : FV) (b : List Blk), (∀ i, i < k → vs i = (fun j => if j = k then v else vs j) i) ∧ ∀ i, i < k → bs i = (fun j => if j = k then b else bs j) i := fun v b =>
      ⟨fun i hi => by simp [show i ≠ k by omega], fun i hi => by simp [show i ≠ k by omega]⟩
    have upd : ∀ (v : FV) (b : List Blk), StepOK P pre bef st (fun j => if j = k then v else vs j) (fun j => if j = k then b else bs j) k →
        runPre E bef pre st r (k + 1) (locN st.loc bs k ++ b) { ents := (k, o.dst, v) :: entN (dstOf pre) vs k, tags := tagN st.loc bs k ++ List.replicate b.length (k + 1) } f = some res →
        ∃ vs bs, (∀ j, j < pre.length → StepOK P pre bef st vs bs j) ∧ f { st with fr := entsFr (fun _ => true) (entN (dstOf pre) vs pre.length) ++ st.fr, loc := locN st.loc bs pre.length } = some res := by
      intro v b hst hr
      refine runPre_spec ok hlt r (k + 1) (fun j => if j = k then v else vs j) (fun j => if j = k then b else bs j) hd' (by omega) (fun j hj => ?_) ?_
      · by_cases e : j = k
        · subst e; exact hst
        · exact (hs j (by omega)).congr (fun i hi => by simp [show i ≠ k by omega]) (hlt j (by omega))
      · have e1 : locN st.loc (fun j => if j = k then b else bs j) (k + 1) = locN st.loc bs k ++ b := by
          simp only [locN, if_true]
          rw [← locN_congr st.loc (self v b).2]
        have e2 : tagN st.loc (fun j => if j = k then b else bs j) (k + 1) = tagN st.loc bs k ++ List.replicate b.length (k + 1) := by
          simp only [tagN, if_true]
          rw [← tagN_congr st.loc (self v b).2]
        have e3 : entN (dstOf pre) (fun j => if j = k then v else vs j) (k + 1) = (k, o.dst, v) :: entN (dstOf pre) vs k := by
          simp only [entN, if_true, hdk]
          rw [← entN_congr (self v b).1]
        rw [e1, e2, e3]
        exact hr
    have ran : ∀ (v : FV) (b : List Blk), (match o.guard with | none => True | some (g, want) => visB bef g k = true ∧ (∃ d, dstOf pre g = some d) ∧ vs g = .v (.one (.bool want))) →
        PureOK P o (stAt bef pre st (locN st.loc bs k) { ents := entN (dstOf pre) vs k, tags := tagN st.loc bs k } k) v b → StepOK P pre bef st (fun j => if j = k then v else vs j) (fun j => if j = k then b else bs j) k := by
      intro v b hg hp
      refine ⟨o, ho, .inl ⟨?_, ?_⟩⟩
      · split
        · trivial
        · rename_i g want hgu
          rw [hgu] at hg
          obtain ⟨h1, h2, h3⟩ := hg
          have := hlt k hkp g h1
          exact ⟨h1, h2, by simp [show g ≠ k by omega, h3]⟩
      · simp only [if_true]
        rw [← locN_congr st.loc (self v b).2, ← tagN_congr st.loc (self v b).2, ← entN_congr (self v b).1]
        exact hp
    have skipped : ∀ (g : Nat) (want : Bool), o.guard = some (g, want) → visB bef g k = true → (∃ d, dstOf pre g = some d) → skipV want (vs g) →
        StepOK P pre bef st (fun j => if j = k then .tup [] else vs j) (fun j => if j = k then [] else bs j) k := by
      intro g want h1 h2 h3 h4
      have := hlt k hkp g h2
      exact ⟨o, ho, .inr ⟨g, want, h1, h2, h3, by simp only [show g ≠ k by omega, if_false]; exact h4, by simp, by simp⟩⟩
    have one : (match o.guard with | none => True | some (g, want) => visB bef g k = true ∧ (∃ d, dstOf pre g = some d) ∧ vs g = .v (.one (.bool want))) →
        (pureK E o (stAt bef pre st (locN st.loc bs k) { ents := entN (dstOf pre) vs k, tags := tagN st.loc bs k } k) fun v b =>
          runPre E bef pre st r (k + 1) (locN st.loc bs k ++ b) { ents := (k, o.dst, v) :: entN (dstOf pre) vs k, tags := tagN st.loc bs k ++ List.replicate b.length (k + 1) } f) = some res →
        ∃ vs bs, (∀ j, j < pre.length → StepOK P pre bef st vs bs j) ∧ f { st with fr := entsFr (fun _ => true) (entN (dstOf pre) vs pre.length) ++ st.fr, loc := locN st.loc bs pre.length } = some res := by
      intro hg h
      obtain ⟨v, b, h1, h2⟩ := pureK_sound ok h
      exact upd v b (ran v b hg h2) h1
    have non : ∀ (g : Nat) (want : Bool), o.guard = some (g, want) → visB bef g k = true → (∃ d, dstOf pre g = some d) → skipV want (vs g) →
        runPre E bef pre st r (k + 1) (locN st.loc bs k) { ents := (k, o.dst, .tup []) :: entN (dstOf pre) vs k, tags := tagN st.loc bs k } f = some res →
        ∃ vs bs, (∀ j, j < pre.length → StepOK P pre bef st vs bs j) ∧ f { st with fr := entsFr (fun _ => true) (entN (dstOf pre) vs pre.length) ++ st.fr, loc := locN st.loc bs pre.length } = some res := by
      intro g want h1 h2 h3 h4 h
      exact upd (.tup []) [] (skipped g want h1 h2 h3 h4) (by simpa using h)
    simp only [runPre] at h
    split at h
    · rename_i hg
      exact one (by rw [hg]; trivial) h
    · rename_i g want hg
      obtain ⟨hv, h⟩ := bif_some h
      split at h
      · rename_i b he
        obtain ⟨h1, h2, h3⟩ := entAt_entN he
        split at h
        · cases b
          · simp only [cond_false] at h
            rw [learnE_eq he] at h
            exact non g true hg hv h2 (.inl ⟨false, h3, by simp⟩) h
          · simp only [cond_true] at h
            rw [learnE_eq he] at h
            exact one (by rw [hg]; exact ⟨hv, h2, h3⟩) h
        · cases b
          · simp only [cond_false] at h
            rw [learnE_eq he] at h
            exact one (by rw [hg]; exact ⟨hv, h2, h3⟩) h
          · simp only [cond_true] at h
            rw [learnE_eq he] at h
            exact non g false hg hv h2 (.inl ⟨true, h3, by simp⟩) h
      · rename_i he
        obtain ⟨h1, h2, h3⟩ := entAt_entN' (by simp) he
        exact non g want hg hv h2 (.inr h3) h
      · cases h
end pre

end Go.Fw
