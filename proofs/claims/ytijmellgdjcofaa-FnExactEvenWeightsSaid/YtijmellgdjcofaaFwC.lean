/- The abstract interpreter, its soundness, and plain facts: part 3. No condition. -/
import Derived.Test.YtijmellgdjcofaaFwB
import Derived.Lib.SliceRun
import Derived.Lib.LazyBuf
import Derived.Deep.LoopGhost
import Derived.ProofKit
import Derived.Deep.Slices
/- Operations that look at tmps alone: what they yield in any world. No condition. -/
namespace Go.Fw
section
variable {P : Program} {R : Type} {r : R} {o : Oper} {st : St}

/-- The operation yields v in any world, in every act that the interpreter's state stands for. -/
def StillOK (P : Program) (o : Oper) (st : St) (v : FV) : Prop :=
  ∀ w0 S m H F a w, Rel w0 S m H F st a w → ∃ v', (∀ w', (execOp a.eval o).run P w' = .ok (.value v') w') ∧ fvRel ⟨w.heap, S, m, H, F, st.loc⟩ v v'

theorem StillOK.pure {v : FV} (h : StillOK P o st v) : PureOK P o st v [] :=
  .val0 fun w0 S m H F a w hr => let ⟨v', h1, h2⟩ := h w0 S m H F a w hr; ⟨v', h1 w, h2⟩

theorem still_move {x : Operand} (ho : o.op = .move x) : StillOK P o st (st.ev x) := fun w0 S m H F a w hr =>
  ⟨a.eval x, fun w' => by unfold execOp; simp only [ho, Sem.run_pure], ev_rel hr x⟩
theorem still_assign {x : Operand} (ho : o.op = .assign x) : StillOK P o st (st.ev x) := fun w0 S m H F a w hr =>
  ⟨a.eval x, fun w' => by unfold execOp; simp only [ho, Sem.run_pure], ev_rel hr x⟩
theorem still_extract {x : Operand} {i : Nat} {xs : List V1} {v : V1} (ho : o.op = .extract x i) (hx : st.ev x = .tup xs) (hi : xs[i]? = some v) : StillOK P o st (.v v) := fun w0 S m H F a w hr => by
  have h := ev_rel hr x
  rw [hx] at h
  obtain ⟨vs, e, ha⟩ := h
  obtain ⟨v', hv', hrel⟩ := ha.get i v hi
  refine ⟨v', fun w' => ?_, hrel⟩
  have hv'' : vs[i]? = some v' := by simpa using hv'
  unfold execOp
  simp only [ho, e, Instr.extract, hv'', Sem.run_bind, Sem.run_pure, Result.andThen_ok]
theorem still_fieldAddr {E : Tabs} (tok : TabOK P E.T) {s : TypeId} {x : Operand} {i off : Nat} {ti : TI} {p : Place} (ho : o.op = .fieldAddr s x i) (hf : fieldAtT E s i = some (off, ti))
    (hx : st.ev x = .v (.one (.ptr p))) (h0 : Nat.beq ti.size 0 = false) : StillOK P o st (.v (.one (.ptr (p.add off)))) := fun w0 S m H F a w hr => by
  have hp : plRel ⟨w.heap, S, m, H, F, st.loc⟩ p (a.eval x) := by
    have := ev_rel hr x
    rw [hx] at this
    exact this
  obtain ⟨l, f, hu, hlf, rfl, okf⟩ := fieldAtT_some tok hf
  obtain ⟨c, o', ev, hrel⟩ := plRel_add hp f.offset
  refine ⟨_, fun w' => ?_, hrel⟩
  have h0' : ¬ ti.size = 0 := fun e => by rw [e] at h0; simp at h0
  unfold execOp
  simp only [ho, ev, Instr.fieldAt, Sem.run_bind, run_underlying hu, Result.andThen_ok, hlf, Instr.sureAddr, Sem.run_pure, fieldPlace, okf.sizeOf, if_neg h0', Addr.add_plain]
theorem still_indexAddr_slice {E : Tabs} (tok : TabOK P E.T) {t e : TypeId} {ti te : TI} {x i : Operand} {s : Sl} {k : IntKind} {n : Int} {len j : Nat} {p : Place} (ho : o.op = .indexAddr t x i) (ht : E.T t = some ti) (hu : ti.und = .slice e)
    (he : E.T e = some te) (hx : st.ev x = .v (.one (.sl s))) (hi : st.ev i = .v (.one (.int k n))) (hl : s.len st.loc = some len) (hj : ix n len = some j) (hp : s.at te.size st.loc j = some p) :
    StillOK P o st (.v (.one (.ptr p))) := fun w0 S m H F a w hr => by
  have hs : slRel ⟨w.heap, S, m, H, F, st.loc⟩ s (a.eval x) := by
    have := ev_rel hr x
    rw [hx] at this
    exact this
  obtain ⟨ei, _⟩ := one_of_int (hi ▸ ev_rel hr i)
  obtain ⟨h0, h1, rfl, h2⟩ := ix_some hj
  obtain ⟨c, off, cap, ev, hrel⟩ := at_rel (Γ := ⟨w.heap, S, m, H, F, st.loc⟩) hr.blk hs hl h2 hp
  refine ⟨_, fun w' => ?_, hrel⟩
  obtain ⟨d, hd, hud⟩ := (tok t ti ht).und
  rw [hu] at hud
  cases hud
  unfold execOp
  simp only [ho, ev, ei, Instr.indexAt, asIntOf, Sem.run_bind, Sem.run_pure, run_underlying hd, Result.andThen_ok, if_pos (show 0 ≤ n ∧ n < (len : Int) from ⟨h0, h1⟩), (tok e te he).sizeOf, Addr.add_plain]
theorem still_indexAddr_array {E : Tabs} (tok : TabOK P E.T) {t e : TypeId} {ti te : TI} {x i : Operand} {k : IntKind} {len n : Nat} {p : Place} (ho : o.op = .indexAddr t x i) (ht : E.T t = some ti) (hu : ti.und = .array len e)
    (he : E.T e = some te) (hx : st.ev x = .v (.one (.ptr p))) (hi : st.ev i = .v (.one (.int k (.ofNat n)))) (hn : Nat.blt n len = true) :
    StillOK P o st (.v (.one (.ptr (p.add (n * te.size))))) := fun w0 S m H F a w hr => by
  have hp : plRel ⟨w.heap, S, m, H, F, st.loc⟩ p (a.eval x) := by
    have := ev_rel hr x
    rw [hx] at this
    exact this
  obtain ⟨ei, _⟩ := one_of_int (hi ▸ ev_rel hr i)
  obtain ⟨c, o', ev, hrel⟩ := plRel_add hp (n * te.size)
  have hn' : n < len := by simpa [Nat.blt_eq] using hn
  refine ⟨_, fun w' => ?_, hrel⟩
  obtain ⟨d, hd, hud⟩ := (tok t ti ht).und
  rw [hu] at hud
  cases hud
  unfold execOp
  simp only [ho, ev, ei, Instr.indexAt, asIntOf, Sem.run_bind, Sem.run_pure, run_underlying hd, Result.andThen_ok, Instr.sureAddr,
    if_pos (show 0 ≤ Int.ofNat n ∧ Int.ofNat n < (len : Int) from ⟨Int.natCast_nonneg n, Int.ofNat_lt.2 hn'⟩), (tok e te he).sizeOf, Addr.add_plain]
  rfl

/-- The same operation's value, and that it is still. -/
theorem pureK_still {E : Tabs} (ok : EnvOK P E) {f : FV → List Blk → Option R} (h : pureK E o st f = some r) : ∃ v bs, f v bs = some r ∧ PureOK P o st v bs ∧ (tmpOp o.op = true → StillOK P o st v ∧ bs = []) := by
  cases ht : tmpOp o.op
  · obtain ⟨v, bs, h1, h2⟩ := pureK_sound ok h
    exact ⟨v, bs, h1, h2, fun h => by cases h⟩
  · have tok := ok.tab
    have key : ∃ v, f v [] = some r ∧ StillOK P o st v := by
      unfold pureK at h
      unfold tmpOp at ht
      split at h <;> rename_i ho <;> first | (cases h; done) | (rw [ho] at ht; cases ht; done) | skip
      · exact ⟨_, h, still_move ho⟩
      · exact ⟨_, h, still_assign ho⟩
      · split at h
        · rename_i off ti p hf hx
          cases h0 : Nat.beq ti.size 0 <;> rw [h0] at h
          · exact ⟨_, h, still_fieldAddr tok ho hf hx h0⟩
          · cases h
        · cases h
      · split at h
        · rename_i e size bytes zero ty s k n ht hx hi
          split at h
          · rename_i te len he hl
            cases hj : ix n len with
            | none => rw [hj] at h; cases h
            | some j =>
              rw [hj] at h
              simp only [Option.bind_some] at h
              split at h
              · rename_i p hp
                exact ⟨_, h, still_indexAddr_slice tok ho ht rfl he hx hi hl hj hp⟩
              · cases h
          · cases h
        · rename_i len e size bytes zero ty p k n ht hx hi
          split at h
          · rename_i te he
            obtain ⟨hb, h⟩ := bif_some h
            exact ⟨_, h, still_indexAddr_array tok ho ht rfl he hx hi hb⟩
          · cases h
        · cases h
      · split at h
        · rename_i xs hx
          split at h
          · rename_i v hi
            exact ⟨_, h, still_extract ho hx hi⟩
          · cases h
        · cases h
    obtain ⟨v, h1, h2⟩ := key
    exact ⟨v, [], h1, h2.pure, fun _ => ⟨h2, rfl⟩⟩
end
end Go.Fw
/- Regions whose order is open: the walk in the order of the text, and the machine's in any order. No condition. -/
namespace Go.Fw

def dstOf (pre : List Oper) (j : Nat) : Option Tmp := (pre[j]?).bind (·.dst)

/-- The guard's operation says no, or was not wanted itself. -/
def skipV (want : Bool) (v : FV) : Prop := (∃ b, v = .v (.one (.bool b)) ∧ b ≠ want) ∨ v = .tup []

/-- What the interpreter has found for operation j. -/
def StepOK (P : Program) (pre : List Oper) (bef : List Nat) (st : St) (vs : Nat → FV) (bs : Nat → List Blk) (j : Nat) : Prop :=
  ∃ o, pre[j]? = some o ∧
    (((match o.guard with | none => True | some (g, want) => visB bef g j = true ∧ (∃ d, dstOf pre g = some d) ∧ vs g = .v (.one (.bool want))) ∧
        PureOK P o (stAt bef pre st (locN st.loc bs j) { ents := entN (dstOf pre) vs j, tags := tagN st.loc bs j } j) (vs j) (bs j) ∧
        (tmpOp o.op = true → StillOK P o (stAt bef pre st (locN st.loc bs j) { ents := entN (dstOf pre) vs j, tags := tagN st.loc bs j } j) (vs j) ∧ bs j = [])) ∨
      (∃ g want, o.guard = some (g, want) ∧ visB bef g j = true ∧ (∃ d, dstOf pre g = some d) ∧ skipV want (vs g) ∧ vs j = .tup [] ∧ bs j = []))

theorem StepOK.congr {P : Program} {pre : List Oper} {bef : List Nat} {st : St} {vs vs' : Nat → FV} {bs bs' : Nat → List Blk} {j : Nat} (h : StepOK P pre bef st vs bs j)
    (hv : ∀ i, i ≤ j → vs i = vs' i ∧ bs i = bs' i) (hlt : ∀ g, visB bef g j = true → g < j) : StepOK P pre bef st vs' bs' j := by
  obtain ⟨o, ho, h⟩ := h
  refine ⟨o, ho, ?_⟩
  rcases h with ⟨hg, hp⟩ | ⟨g, want, h1, h2, h3, h4, h6, h7⟩
  · refine .inl ⟨?_, ?_⟩
    · split
      · trivial
      · rename_i g want hgu
        rw [hgu] at hg
        obtain ⟨h1, h2, h3⟩ := hg
        exact ⟨h1, h2, by rw [← (hv g (by have := hlt g h1; omega)).1]; exact h3⟩
    · rw [← (hv j (Nat.le_refl _)).1, ← (hv j (Nat.le_refl _)).2, ← locN_congr st.loc fun i hi => (hv i (by omega)).2, ← tagN_congr st.loc fun i hi => (hv i (by omega)).2, ← entN_congr fun i hi => (hv i (by omega)).1]
      exact hp
  · exact .inr ⟨g, want, h1, h2, h3, by rw [← (hv g (by have := hlt g h2; omega)).1]; exact h4, by rw [← (hv j (Nat.le_refl _)).1]; exact h6, by rw [← (hv j (Nat.le_refl _)).2]; exact h7⟩

section pre
variable {P : Program} {E : Tabs} {R : Type} {res : R}

theorem runPre_spec (ok : EnvOK P E) {pre : List Oper} {bef : List Nat} {st : St} {f : St → Option R} (hlt : ∀ k, k < pre.length → ∀ g, visB bef g k = true → g < k) :
    ∀ (r : List Oper) (k : Nat) (vs : Nat → FV) (bs : Nat → List Blk), pre.drop k = r → k ≤ pre.length → (∀ j, j < k → StepOK P pre bef st vs bs j) →
      runPre E bef pre st r k (locN st.loc bs k) { ents := entN (dstOf pre) vs k, tags := tagN st.loc bs k } f = some res →
      ∃ vs bs, (∀ j, j < pre.length → StepOK P pre bef st vs bs j) ∧ f { st with fr := entsFr (fun _ => true) (entN (dstOf pre) vs pre.length) ++ st.fr, loc := locN st.loc bs pre.length } = some res
  | [], k, vs, bs, hd, hkl, hs, h => by
    have hk : pre.length ≤ k := List.drop_eq_nil_iff.1 hd
    have e : k = pre.length := by omega
    subst e
    exact ⟨vs, bs, hs, h⟩
  | o :: r, k, vs, bs, hd, hkl, hs, h => by
    have ho : pre[k]? = some o := by
      have : (pre.drop k)[0]? = some o := by rw [hd]; rfl
      rwa [List.getElem?_drop, Nat.add_zero] at this
    have hkp : k < pre.length := (List.getElem?_eq_some_iff.1 ho).1
    have hd' : pre.drop (k + 1) = r := by rw [← List.drop_drop, hd]; rfl
    have hdk : dstOf pre k = o.dst := by simp [dstOf, ho]
    have self : ∀ (v : FV) (b : List Blk), (∀ i, i < k → vs i = (fun j => if j = k then v else vs j) i) ∧ ∀ i, i < k → bs i = (fun j => if j = k then b else bs j) i := fun v b =>
      ⟨fun i hi => by simp [show i ≠ k by omega], fun i hi => by simp [show i ≠ k by omega]⟩
    have upd : ∀ (v : FV) (b : List Blk), StepOK P pre bef st (fun j => if j = k then v else vs j) (fun j => if j = k then b else bs j) k →
        runPre E bef pre st r (k + 1) (locN st.loc bs k ++ b) { ents := (k, o.dst, v) :: entN (dstOf pre) vs k, tags := tagN st.loc bs k ++ List.replicate b.length (k + 1) } f = some res →
        ∃ vs bs, (∀ j, j < pre.length → StepOK P pre bef st vs bs j) ∧ f { st with fr := entsFr (fun _ => true) (entN (dstOf pre) vs pre.length) ++ st.fr, loc := locN st.loc bs pre.length } = some res := by
      intro v b hst hr
      refine runPre_spec ok hlt r (k + 1) (fun j => if j = k then v else vs j) (fun j => if j = k then b else bs j) hd' (by omega) (fun j hj => ?_) ?_
      · by_cases e : j = k
        · subst e; exact hst
        · exact (hs j (by omega)).congr (fun i hi => by simp [show i ≠ k by omega]) (hlt j (by omega))
      · have e1 : locN st.loc (fun j => if j = k then b else bs j) (k + 1) = locN st.loc bs k ++ b := by
          simp only [locN, if_true]
          rw [← locN_congr st.loc (self v b).2]
        have e2 : tagN st.loc (fun j => if j = k then b else bs j) (k + 1) = tagN st.loc bs k ++ List.replicate b.length (k + 1) := by
          simp only [tagN, if_true]
          rw [← tagN_congr st.loc (self v b).2]
        have e3 : entN (dstOf pre) (fun j => if j = k then v else vs j) (k + 1) = (k, o.dst, v) :: entN (dstOf pre) vs k := by
          simp only [entN, if_true, hdk]
          rw [← entN_congr (self v b).1]
        rw [e1, e2, e3]
        exact hr
    have ran : ∀ (v : FV) (b : List Blk), (match o.guard with | none => True | some (g, want) => visB bef g k = true ∧ (∃ d, dstOf pre g = some d) ∧ vs g = .v (.one (.bool want))) →
        (PureOK P o (stAt bef pre st (locN st.loc bs k) { ents := entN (dstOf pre) vs k, tags := tagN st.loc bs k } k) v b ∧ (tmpOp o.op = true → StillOK P o (stAt bef pre st (locN st.loc bs k) { ents := entN (dstOf pre) vs k, tags := tagN st.loc bs k } k) v ∧ b = [])) → StepOK P pre bef st (fun j => if j = k then v else vs j) (fun j => if j = k then b else bs j) k := by
      intro v b hg hp
      refine ⟨o, ho, .inl ⟨?_, ?_⟩⟩
      · split
        · trivial
        · rename_i g want hgu
          rw [hgu] at hg
          obtain ⟨h1, h2, h3⟩ := hg
          have := hlt k hkp g h1
          exact ⟨h1, h2, by simp [show g ≠ k by omega, h3]⟩
      · simp only [if_true]
        rw [← locN_congr st.loc (self v b).2, ← tagN_congr st.loc (self v b).2, ← entN_congr (self v b).1]
        exact hp
    have skipped : ∀ (g : Nat) (want : Bool), o.guard = some (g, want) → visB bef g k = true → (∃ d, dstOf pre g = some d) → skipV want (vs g) →
        StepOK P pre bef st (fun j => if j = k then .tup [] else vs j) (fun j => if j = k then [] else bs j) k := by
      intro g want h1 h2 h3 h4
      have := hlt k hkp g h2
      exact ⟨o, ho, .inr ⟨g, want, h1, h2, h3, by simp only [show g ≠ k by omega, if_false]; exact h4, by simp, by simp⟩⟩
    have one : (match o.guard with | none => True | some (g, want) => visB bef g k = true ∧ (∃ d, dstOf pre g = some d) ∧ vs g = .v (.one (.bool want))) →
        (pureK E o (stAt bef pre st (locN st.loc bs k) { ents := entN (dstOf pre) vs k, tags := tagN st.loc bs k } k) fun v b =>
          runPre E bef pre st r (k + 1) (locN st.loc bs k ++ b) { ents := (k, o.dst, v) :: entN (dstOf pre) vs k, tags := tagN st.loc bs k ++ List.replicate b.length (k + 1) } f) = some res →
        ∃ vs bs, (∀ j, j < pre.length → StepOK P pre bef st vs bs j) ∧ f { st with fr := entsFr (fun _ => true) (entN (dstOf pre) vs pre.length) ++ st.fr, loc := locN st.loc bs pre.length } = some res := by
      intro hg h
      obtain ⟨v, b, h1, h2, h3⟩ := pureK_still ok h
      exact upd v b (ran v b hg ⟨h2, h3⟩) h1
    have non : ∀ (g : Nat) (want : Bool), o.guard = some (g, want) → visB bef g k = true → (∃ d, dstOf pre g = some d) → skipV want (vs g) →
        runPre E bef pre st r (k + 1) (locN st.loc bs k) { ents := (k, o.dst, .tup []) :: entN (dstOf pre) vs k, tags := tagN st.loc bs k } f = some res →
        ∃ vs bs, (∀ j, j < pre.length → StepOK P pre bef st vs bs j) ∧ f { st with fr := entsFr (fun _ => true) (entN (dstOf pre) vs pre.length) ++ st.fr, loc := locN st.loc bs pre.length } = some res := by
      intro g want h1 h2 h3 h4 h
      exact upd (.tup []) [] (skipped g want h1 h2 h3 h4) (by simpa using h)
    simp only [runPre] at h
    split at h
    · rename_i hg
      exact one (by rw [hg]; trivial) h
    · rename_i g want hg
      obtain ⟨hv, h⟩ := bif_some h
      split at h
      · rename_i b he
        obtain ⟨h1, h2, h3⟩ := entAt_entN he
        split at h
        · cases b
          · simp only [cond_false] at h
            rw [learnE_eq he] at h
            exact non g true hg hv h2 (.inl ⟨false, h3, by simp⟩) h
          · simp only [cond_true] at h
            rw [learnE_eq he] at h
            exact one (by rw [hg]; exact ⟨hv, h2, h3⟩) h
        · cases b
          · simp only [cond_false] at h
            rw [learnE_eq he] at h
            exact one (by rw [hg]; exact ⟨hv, h2, h3⟩) h
          · simp only [cond_true] at h
            rw [learnE_eq he] at h
            exact non g false hg hv h2 (.inl ⟨true, h3, by simp⟩) h
      · rename_i he
        obtain ⟨h1, h2, h3⟩ := entAt_entN' (by simp) he
        exact non g want hg hv h2 (.inr h3) h
      · cases h
end pre

end Go.Fw
/- Regions whose order is open: the machine's orders. No condition. -/
namespace Go.Fw

theorem maskN_all {V : Nat → Bool} (l : List Blk) (bs : Nat → List Blk) : ∀ {n : Nat}, (∀ i, i < n → V i = true) → maskN V l bs n = locN l bs n
  | 0, _ => rfl
  | n + 1, h => by
    simp only [maskN, locN]
    rw [maskN_all l bs fun i hi => h i (by omega), h n (by omega)]; rfl

def cntB (f : Nat → Bool) : Nat → Nat
  | 0 => 0
  | n + 1 => cntB f n + (if f n = true then 1 else 0)

theorem cntB_zero {f : Nat → Bool} : ∀ {n : Nat}, cntB f n = 0 → ∀ i, i < n → f i = false
  | n + 1, h, i, hi => by
    simp only [cntB] at h
    by_cases e : i = n
    · subst e
      cases hf : f i
      · rfl
      · rw [hf] at h; simp at h
    · exact cntB_zero (n := n) (by omega) i (by omega)

theorem cntB_first {f : Nat → Bool} : ∀ {n c : Nat}, cntB f n = c + 1 → ∃ j, j < n ∧ f j = true ∧ ∀ i, i < j → f i = false
  | 0, c, h => by cases h
  | n + 1, c, h => by
    cases hc : cntB f n with
    | zero =>
      simp only [cntB, hc] at h
      refine ⟨n, by omega, ?_, cntB_zero hc⟩
      cases hf : f n
      · rw [hf] at h; simp at h
      · rfl
    | succ c' =>
      obtain ⟨j, h1, h2⟩ := cntB_first hc
      exact ⟨j, by omega, h2⟩

theorem cntB_same {f g : Nat → Bool} : ∀ {n : Nat}, (∀ j, j < n → g j = f j) → cntB g n = cntB f n
  | 0, _ => rfl
  | n + 1, h => by
    simp only [cntB]
    rw [cntB_same fun j hj => h j (by omega), h n (by omega)]

theorem cntB_set {f g : Nat → Bool} {i : Nat} (hf : f i = true) (hg : g i = false) (he : ∀ j, j ≠ i → g j = f j) : ∀ {n : Nat}, i < n → cntB f n = cntB g n + 1
  | n + 1, h => by
    simp only [cntB]
    by_cases e : i = n
    · subst e
      rw [hf, hg, cntB_same (f := f) (g := g) fun j hj => he j (by omega)]
      simp
    · rw [cntB_set hf hg he (n := n) (by omega), he n (Ne.symm e)]
      omega

section
variable {P : Program} {ops : List Oper} {bef : List Nat} {st : St} {vs : Nat → FV} {bs : Nat → List Blk} {p : Nat} {w0 : W0} {S : Nat → Prop} {m : Nat → Nat} {H : Nat → Value} {F : Nat → Nat → Prop} {X : Nat → Bool} {a : Act} {w : World}

theorem PInv.at (B : Bef ops bef) (hp : p ≤ ops.length) (h : PInv st (dstOf (ops.take p)) vs bs bef p w0 S X m H F a w) {k : Nat} (hk : k < p) (hXk : X k = false) (hcl : ∀ j, j < p → X j = true → ∀ i, visB bef i j = true → X i = true)
    (hpre : ∀ j, visB bef j k = true → X j = true) (hdist : ∀ i i' t, i < p → i' < p → dstOf (ops.take p) i = some t → dstOf (ops.take p) i' = some t → i = i') :
    Rel w0 S m H F (stAt bef (ops.take p) st (locN st.loc bs k) { ents := entN (dstOf (ops.take p)) vs k, tags := tagN st.loc bs k } k) a w := by
  have hvlt : ∀ i j, j < p → visB bef i j = true → i < j := fun i j hj hv => B.lt j i (by omega) hv
  have := h.part (V := fun i => visB bef i k) (n := k) (fr := entsFr (fun j => visB bef j k) (entN (dstOf (ops.take p)) vs k) ++ baseFr (hiddenT bef k 0 (ops.take p)) st.fr)
    (fun i hi hv => ⟨hpre i hv, by omega⟩)
    (fun j hj hv i hi hv' => by
      rw [Bool.or_eq_true] at hv'
      rcases hv' with hv' | hv'
      · exact ⟨B.trans k i j (by omega) hv' hv, by omega⟩
      · have := Nat.eq_of_beq_eq_true hv'
        subst this
        exact ⟨hv, by omega⟩)
    (fun t => by
      by_cases he : ∃ i, i < k ∧ visB bef i k = true ∧ dstOf (ops.take p) i = some t
      · obtain ⟨i, h1, h2, h3⟩ := he
        exact .inl ⟨i, h1, h2, h3, look_ents_some h1 h2 h3 fun i' hi' hd => hdist i' i t (by omega) (by omega) hd h3⟩
      · refine .inr ?_
        have hnone : ∀ i, i < k → visB bef i k = true → dstOf (ops.take p) i ≠ some t := fun i h1 h2 h3 => he ⟨i, h1, h2, h3⟩
        rw [look_ents_none hnone, look_base]
        cases hm : memB (hiddenT bef k 0 (ops.take p)) t
        · refine .inr ⟨rfl, fun j hj hx hd => ?_⟩
          have hjk : j ≠ k := fun e => by subst e; rw [hXk] at hx; cases hx
          have h1 : visB bef j k = false := by
            cases hv : visB bef j k
            · rfl
            · exact absurd hd (hnone j (hvlt j k hk hv) hv)
          have h2 : visB bef k j = false := by
            cases hv : visB bef k j
            · rfl
            · have := hcl j hj hx k hv; rw [hXk] at this; cases this
          obtain ⟨o, ho, hd'⟩ : ∃ o, (ops.take p)[j]? = some o ∧ o.dst = some t := by
            unfold dstOf at hd
            cases ho : (ops.take p)[j]? with
            | none => rw [ho] at hd; cases hd
            | some o => rw [ho] at hd; exact ⟨o, rfl, hd⟩
          have := hidden_mem (bef := bef) (k := k) (t := t) (l := ops.take p) (i := 0) (j := j) ho hd' (by omega) (by rw [Nat.zero_add]; exact h1) (by rw [Nat.zero_add]; exact h2)
          rw [hm] at this; cases this
        · exact .inl rfl)
  rw [← maskLoc_eq] at this
  exact this

theorem bool_val {Γ : Ctx} {b : Bool} {v : Value} (h : fvRel Γ (.v (.one (.bool b))) v) : v = .bool b := h

theorem yielded_of {ops : List Oper} {g : Nat} {d : Tmp} {tmps : Array Value} {b : Bool} (hd : dstOf ops g = some d) (hv : tmps.getD d undef = .bool b) : yielded ops.toArray tmps g = some b := by
  unfold dstOf at hd
  unfold yielded
  have e : (ops.toArray[g]?).bind (·.dst) = some d := by simpa using hd
  rw [e]
  simp only [Option.bind_some]
  cases ht : tmps[d]? with
  | none =>
    rw [Array.getD_eq_getD_getElem?, ht] at hv
    cases hv
  | some u =>
    rw [Array.getD_eq_getD_getElem?, ht] at hv
    simp at hv
    subst hv
    rfl

theorem not_wanted {ops : List Oper} {g : Nat} {d : Tmp} {tmps : Array Value} {want : Bool} {Γ : Ctx} {v : FV} (hd : dstOf ops g = some d) (hs : skipV want v) (hv : fvRel Γ v (tmps.getD d undef)) : (yielded ops.toArray tmps g == some want) = false := by
  rcases hs with ⟨b, rfl, hb⟩ | rfl
  · rw [yielded_of hd (bool_val hv)]
    cases b <;> cases want <;> simp_all
  · obtain ⟨vs, hv, hn⟩ := hv
    have hy : yielded ops.toArray tmps g = none := by
      unfold dstOf at hd
      unfold yielded
      have e : (ops.toArray[g]?).bind (·.dst) = some d := by simpa using hd
      rw [e]
      simp only [Option.bind_some]
      cases ht : tmps[d]? with
      | none => rfl
      | some u =>
        rw [Array.getD_eq_getD_getElem?, ht] at hv
        simp at hv
        subst hv
        rfl
    rw [hy]; rfl

theorem dstOf_take {g : Nat} {d : Tmp} (h : dstOf (ops.take p) g = some d) : dstOf ops g = some d := by
  unfold dstOf at *
  rw [List.getElem?_take] at h
  split at h
  · exact h
  · cases h

structure Upto (n q : Nat) (listed : Array Bool) : Prop where
  size : listed.size = n
  lst : ∀ j, j < n → listed.getD j false = decide (j < q)

variable {Q : Exit → Act → World → Prop}

theorem pre_any (B : Bef ops bef) (hp : p ≤ ops.length) (steps : ∀ j, j < p → StepOK P (ops.take p) bef st vs bs j) (hdist : ∀ i i' t, i < p → i' < p → dstOf (ops.take p) i = some t → dstOf (ops.take p) i' = some t → i = i')
    (hdok : ∀ j, j < p → dstOk st.n (dstOf (ops.take p) j) = true) {Kp : Nat → Bool} (hrest : ∀ i, p ≤ i → i < ops.length → ∀ j, j < p → Kp j = false → visB bef j i = true)
    (hsel : ∀ (j : Nat) (o : Oper) cs b, ops.toArray[j]? = some o → o.op ≠ .select cs b) (hQ : ∀ c a w, ¬ Q (.panic c) a w)
    (hK : ∀ k o, k < p → Kp k = true → ops[k]? = some o → tmpOp o.op = true ∧ o.guard = none ∧ ∀ j oj, ops[j]? = some oj → j ≠ k → ¬ (j < p ∧ (Kp j = false ∨ j < k)) → (∀ e ∈ oj.after, Region.binds .any e = true → e.on ≠ k) → o.apart ops.toArray oj = true)
    (hend : ∀ listed a w m H F, Upto ops.length p listed → Rel w0 S m H F { st with fr := entsFr (fun _ => true) (entN (dstOf (ops.take p)) vs p) ++ st.fr, loc := locN st.loc bs p } a w → wpAny P .any ops.toArray Q (ops.length - p) listed a w) :
    ∀ (c fuel : Nat) (listed : Array Bool) (a : Act) (w : World) (m : Nat → Nat) (H : Nat → Value) (F : Nat → Nat → Prop), listed.size = ops.length → (∀ j, p ≤ j → j < ops.length → listed.getD j false = false) → cntB (fun j => !listed.getD j false) p = c → fuel = c + (ops.length - p) →
      (∀ j, j < ops.length → listed.getD j false = true → ∀ i, visB bef i j = true → listed.getD i false = true) → PInv st (dstOf (ops.take p)) vs bs bef p w0 S (fun j => listed.getD j false) m H F a w → wpAny P .any ops.toArray Q fuel listed a w
  | 0, fuel, listed, a, w, m, H, F, hsz, hun, hc, hfu, hcl, h => by
    have hall : ∀ j, j < p → listed.getD j false = true := fun j hj => by simpa using cntB_zero hc j hj
    rw [hfu, Nat.zero_add]
    refine hend listed a w m H F ⟨hsz, fun j hj => ?_⟩ ?_
    · rcases Nat.lt_or_ge j p with h1 | h1
      · rw [hall j h1]; simp [h1]
      · rw [hun j h1 hj]; simp; omega
    · have := h.part (V := fun _ => true) (n := p) (fr := entsFr (fun _ => true) (entN (dstOf (ops.take p)) vs p) ++ st.fr) (fun i hi _ => ⟨hall i hi, hi⟩) (fun j hj _ i hi _ => ⟨rfl, by omega⟩)
        (fun t => by
          by_cases he : ∃ i, i < p ∧ dstOf (ops.take p) i = some t
          · obtain ⟨i, h1, h3⟩ := he
            exact .inl ⟨i, h1, rfl, h3, look_ents_some h1 rfl h3 fun i' hi' hd => hdist i' i t hi' h1 hd h3⟩
          · exact .inr (.inr ⟨look_ents_none fun i h1 _ h3 => he ⟨i, h1, h3⟩, fun j hj _ hd => he ⟨j, hj, hd⟩⟩))
      rwa [maskN_all st.loc bs fun _ _ => rfl] at this
  | c + 1, fuel, listed, a, w, m, H, F, hsz, hun, hc, hfu, hcl, h => by
    obtain ⟨j0, hj0, hf0, hlow⟩ := cntB_first hc
    have hj0f : listed.getD j0 false = false := by simpa using hf0
    have hready : ∀ i o, ops[i]? = some o → (∀ e ∈ o.after, Region.binds .any e = true → listed.getD e.on false = true) → ∀ j, visB bef j i = true → listed.getD j false = true := fun i o ho he =>
      B.ready (X := fun j => listed.getD j false = true) (fun k hk j hj => by
        rcases Nat.lt_or_ge k ops.length with h1 | h1
        · exact hcl k h1 hk j hj
        · exfalso
          have : listed.getD k false = false := by simp [Array.getElem?_eq_none (show listed.size ≤ k by omega)]
          rw [this] at hk; cases hk) ho (fun e hm hb => he e (by simpa using hm) hb)
    have hfu' : fuel = (c + (ops.length - p)) + 1 := by omega
    subst hfu'
    have hlt0 : j0 < ops.length := by omega
    have hready0 : j0 ∈ Region.ready .any ops.toArray listed := by
      refine mem_ready.2 ⟨getD_in (by omega) hj0f, ops[j0], by simp [hlt0], fun e he hb => ?_⟩
      have hup := B.up j0 _ (List.getElem?_eq_getElem hlt0) e (by simpa using he) hb
      have := hlow e.on hup
      simpa using this
    have cont0 : ∀ (i : Nat) (o : Oper), ops[i]? = some o → i < p → listed.getD i false = false → (∀ j, visB bef j i = true → listed.getD j false = true) →
        ∀ v' w' m' H' F', Ext w w' → Fresh S m H F (maskN (fun j => visB bef j i) st.loc bs i) w w' (vs i) v' (bs i) m' H' F' → wpAny P .any ops.toArray Q (c + (ops.length - p)) (listed.setIfInBounds i true) (a.put o.dst v') w' := by
      intro i o ho' hip hi2 hpre v' w' m' H' F' he hf
      have hpo : (ops.take p)[i]? = some o := by rw [List.getElem?_take, if_pos hip]; exact ho'
      have hcl' : ∀ j, j < p → listed.getD j false = true → ∀ i, visB bef i j = true → listed.getD i false = true := fun j hj => hcl j (by omega)
      have hset : ∀ j, (listed.setIfInBounds i true).getD j false = true ↔ listed.getD j false = true ∨ j = i := fun j => by
        by_cases e : j = i
        · subst e
          have : j < listed.size := by omega
          simp [this]
        · rw [getD_set_ne false (Ne.symm e)]; simp [e]
      have hdi : dstOf (ops.take p) i = o.dst := by simp [dstOf, hpo]
      obtain ⟨m'', H'', F'', hst⟩ := h.step (X' := fun j => (listed.setIfInBounds i true).getD j false) hip hi2 hset hcl' hpre hdist (hdok i hip) he hf
      rw [hdi] at hst
      refine pre_any B hp steps hdist hdok hrest hsel hQ hK hend c _ _ _ _ m'' H'' F'' (by simp [hsz]) (fun j h1 h2 => ?_) ?_ rfl (fun j hj hl i' hv => ?_) hst
      · rw [getD_set_ne false (by omega)]; exact hun j h1 h2
      · have := cntB_set (f := fun j => !listed.getD j false) (g := fun j => !(listed.setIfInBounds i true).getD j false) (i := i) (by simp only [hi2]; rfl) (by simp only [(hset i).2 (.inr rfl)]; rfl) (fun j hj => by show (!(listed.setIfInBounds i true).getD j false) = !listed.getD j false; rw [getD_set_ne false (Ne.symm hj)]) hip
        omega
      · rcases (hset j).1 hl with h1 | rfl
        · exact (hset i').2 (.inl (hcl j hj h1 i' hv))
        · exact (hset i').2 (.inl (hpre i' hv))
    by_cases hnk : ∃ j, j < p ∧ Kp j = false ∧ listed.getD j false = false
    rotate_left
    · -- only operations that look at tmps alone are left before the effects: the first of them is taken
      have hall : ∀ j, j < p → Kp j = false → listed.getD j false = true := fun j hj hk => by
        cases hx : listed.getD j false
        · exact absurd ⟨j, hj, hk, hx⟩ hnk
        · rfl
      have hk0 : Kp j0 = true := by
        cases hx : Kp j0
        · rw [hall j0 hj0 hx] at hj0f; cases hj0f
        · rfl
      have ho : ops[j0]? = some ops[j0] := List.getElem?_eq_getElem hlt0
      obtain ⟨k1, k2, k3⟩ := hK j0 _ hj0 hk0 ho
      have hpre0 : ∀ j, visB bef j j0 = true → listed.getD j false = true := fun j hv => by
        have := hlow j (B.lt j0 j hlt0 hv)
        simpa using this
      have hpo : (ops.take p)[j0]? = some ops[j0] := by rw [List.getElem?_take, if_pos hj0]; exact ho
      have hcl' : ∀ j, j < p → listed.getD j false = true → ∀ i, visB bef i j = true → listed.getD i false = true := fun j hj => hcl j (by omega)
      have hrel := h.at B hp hj0 hj0f hcl' hpre0 hdist
      obtain ⟨o', ho2, hs⟩ := steps j0 hj0
      rw [hpo] at ho2
      cases ho2
      rcases hs with ⟨_, _, hst⟩ | ⟨g, want, h1, _⟩
      rotate_left
      · rw [k2] at h1; cases h1
      obtain ⟨hst1, hst2⟩ := hst k1
      obtain ⟨v', hv1, hv2⟩ := hst1 w0 S m H F a w hrel
      refine wpAny_first (oi := ops[j0]) (v := v') (by simp [hlt0]) hsel (fun c a w hq => absurd hq (hQ c _ w)) _ listed a w (fun j oj hj hne hul hno => ?_) hready0 (.inl ⟨by unfold Region.wanted; rw [k2], hv1⟩) ?_
      · refine k3 j oj (by simpa using hj) hne (fun hx => ?_) hno
        have hlj : listed.getD j false = true := by
          rcases hx.2 with h1 | h1
          · exact hall j hx.1 h1
          · have := hlow j h1; simpa using this
        rw [getD_both hul] at hlj; cases hlj
      · refine cont0 j0 _ ho hj0 hj0f hpre0 v' w m H F (Ext.refl w) ?_
        have e : (stAt bef (ops.take p) st (locN st.loc bs j0) { ents := entN (dstOf (ops.take p)) vs j0, tags := tagN st.loc bs j0 } j0).loc = maskN (fun j => visB bef j j0) st.loc bs j0 := maskLoc_eq _ _ _ _
        rw [e] at hv2
        rw [hst2]
        exact ⟨fun _ _ => ⟨rfl, rfl, rfl⟩, by rw [List.append_nil]; exact hv2, fun j k hj => by simp at hj, fun j j' _ hj => by simp at hj, fun j τ xs hj => by simp at hj⟩
    obtain ⟨jn, hjn, hkn, hfn⟩ := hnk
    refine ⟨fun h0 => ?_, fun i hi => ?_⟩
    · exfalso
      rw [h0] at hready0
      cases hready0
    · obtain ⟨hi1, o, ho, hall⟩ := mem_ready.1 hi
      have ho' : ops[i]? = some o := by simpa using ho
      have hi2 := getD_both hi1
      have hpre := hready i o ho' hall
      have hilt : i < ops.length := (List.getElem?_eq_some_iff.1 ho').1
      have hip : i < p := by
        rcases Nat.lt_or_ge i p with h1 | h1
        · exact h1
        · have := hpre jn (hrest i h1 hilt jn hjn hkn)
          rw [hfn] at this; cases this
      have hpo : (ops.take p)[i]? = some o := by rw [List.getElem?_take, if_pos hip]; exact ho'
      have hcl' : ∀ j, j < p → listed.getD j false = true → ∀ i, visB bef i j = true → listed.getD i false = true := fun j hj => hcl j (by omega)
      have hrel := h.at B hp hip hi2 hcl' hpre hdist
      have cont := cont0 i o ho' hip hi2 hpre
      unfold wpOp
      simp only [ho]
      obtain ⟨o', ho2, hs⟩ := steps i hip
      rw [hpo] at ho2
      cases ho2
      have tmpg : ∀ (g : Nat) (b : Bool) (d : Tmp), visB bef g i = true → dstOf (ops.take p) g = some d → vs g = .v (.one (.bool b)) → yielded ops.toArray a.tmps g = some b := by
        intro g b d hv hd hvs
        have := h.tmpE g (by have := B.lt i g hilt hv; omega) (hpre g hv) d hd
        rw [hvs] at this
        exact yielded_of (dstOf_take hd) (bool_val this)
      rcases hs with ⟨hg, hpure, _⟩ | ⟨g, want, h1, h2, ⟨d, h3⟩, h4, h6, h7⟩
      · have hw : Region.wanted o (yielded ops.toArray a.tmps) = true := by
          unfold Region.wanted
          split at hg
          · rename_i hgu; rw [hgu]
          · rename_i g want hgu
            obtain ⟨g1, ⟨d, g2⟩, g3⟩ := hg
            rw [hgu]
            simp only [tmpg g want d g1 g2 g3]
            simp
        rw [if_pos hw]
        refine .inl (hpure w0 S m H F a w hrel _ Q fun v' w' m' H' F' he hf => ?_)
        refine cont v' w' m' H' F' he ?_
        have e : (stAt bef (ops.take p) st (locN st.loc bs i) { ents := entN (dstOf (ops.take p)) vs i, tags := tagN st.loc bs i } i).loc = maskN (fun j => visB bef j i) st.loc bs i := maskLoc_eq _ _ _ _
        rw [← e]; exact hf
      · have hw : Region.wanted o (yielded ops.toArray a.tmps) = false := by
          unfold Region.wanted
          rw [h1]
          exact not_wanted (dstOf_take h3) h4 (h.tmpE g (by have := B.lt i g hilt h2; omega) (hpre g h2) d h3)
        rw [if_neg (by rw [hw]; simp)]
        refine cont undef w m H F (Ext.refl w) ?_
        rw [h6, h7]
        exact ⟨fun _ _ => ⟨rfl, rfl, rfl⟩, ⟨#[], rfl, .nil⟩, fun j k hj => by simp at hj, fun j j' _ hj => by simp at hj, fun j τ xs hj => by simp at hj⟩

end
end Go.Fw
/- Many blocks change at once: behind a call that changes what it is lent. No condition. -/
namespace Go.Fw
section
variable {P : Program} {w0 : W0} {w w' : World} {S : Nat → Prop} {m : Nat → Nat} {H : Nat → Value} {F F' : Nat → Nat → Prop} {st : St} {a : Act}

/-- The blocks 'used' change; their kinds, their headers and their places stay. -/
theorem Rel.upds (h : Rel w0 S m H F st a w) {used : List Nat} {loc' : List Blk}
    (hF : ∀ b, b ∉ used → F' b = F b) (hother : ∀ b, b ∉ used → loc'[b]? = st.loc[b]?)
    (hkind : ∀ b, b ∈ used → (∃ cs cs', st.loc[b]? = some (.box cs) ∧ loc'[b]? = some (.box cs')) ∨ (∃ pin τ xs xs', st.loc[b]? = some (.row pin τ xs) ∧ loc'[b]? = some (.row pin τ xs') ∧ xs'.length = xs.length))
    (hsz : w.heap.size ≤ w'.heap.size) (hheap : ∀ c, c < w.heap.size → (∀ b, b ∈ used → ¬ F b c) → w'.heap[c]? = w.heap[c]?) (hos : w'.os = w.os) (htape : w'.tape = w.tape) (hout : w'.output = w.output)
    (hFnew : ∀ b, b ∈ used → ∀ c, F' b c → ((∃ b', b' ∈ used ∧ F b' c) ∨ w.heap.size ≤ c) ∧ c < w'.heap.size) (hdisj : ∀ b b', b ∈ used → b' ∈ used → b ≠ b' → ∀ c, F' b c → ¬ F' b' c)
    (hnew : ∀ b, b ∈ used → ∀ k, loc'[b]? = some k → blkRel ⟨w'.heap, S, m, H, F', loc'.map (Blk.kill [] used)⟩ b (k.kill [] used)) :
    Rel w0 S m H F' ({ st with loc := loc' }.kill [] used) a w' := by
  have halive : ∀ b, b ∈ used → ∃ k : Blk, st.loc[b]? = some k ∧ k.alive = true := fun b hb => by
    rcases hkind b hb with ⟨cs, _, h1, _⟩ | ⟨pin, τ, xs, _, h1, _⟩
    · exact ⟨_, h1, rfl⟩
    · exact ⟨_, h1, rfl⟩
  have hFlt := h.F_lt
  have notUsed : ∀ b (k : Blk), b ∉ used → st.loc[b]? = some k → k.alive = true → ∀ c, F b c → w'.heap[c]? = w.heap[c]? := fun b k hb hk ha c hc =>
    hheap c (hFlt b k hk ha c hc) fun b' hb' hc' => by
      obtain ⟨k', hk', ha'⟩ := halive b' hb'
      exact h.disj b b' k k' hk hk' ha ha' (fun e => hb (e ▸ hb')) c hc hc'
  have hSh : ∀ c, S c → w'.heap[c]? = w.heap[c]? := fun c hc => hheap c (h.S_lt c hc) fun b hb hbc => by
    obtain ⟨k, hk, ha⟩ := halive b hb
    exact (h.own b k hk ha c hbc).2 hc
  have getM : ∀ b, (loc'.map (Blk.kill [] used))[b]? = (loc'[b]?).map (Blk.kill [] used) := fun b => List.getElem?_map ..
  have M : Moves ⟨w.heap, S, m, H, F, st.loc⟩ ⟨w'.heap, S, m, H, F', loc'.map (Blk.kill [] used)⟩ [] used := by
    refine ⟨fun _ h => h, hSh, fun b cs _ hb => ⟨rfl, ?_⟩, fun b pin τ xs _ hb => ⟨rfl, rfl, ?_⟩, fun b pin τ xs _ hn hb _ => ?_⟩
    · replace hb : st.loc[b]? = some (.box cs) := hb
      by_cases hu : b ∈ used
      · rcases hkind b hu with ⟨c1, c2, h1, h2⟩ | ⟨pin, τ, xs, xs', h1, _⟩
        · exact ⟨c2.map (C.kill [] used), by show (loc'.map _)[b]? = _; rw [getM, h2]; rfl⟩
        · rw [hb] at h1; cases h1
      · exact ⟨cs.map (C.kill [] used), by show (loc'.map _)[b]? = _; rw [getM, hother b hu, hb]; rfl⟩
    · replace hb : st.loc[b]? = some (.row pin τ xs) := hb
      by_cases hu : b ∈ used
      · rcases hkind b hu with ⟨c1, c2, h1, h2⟩ | ⟨pin', τ', xs1, xs', h1, h2, h3⟩
        · rw [hb] at h1; cases h1
        · rw [hb] at h1
          cases h1
          exact ⟨pin, xs', by show (loc'.map _)[b]? = _; rw [getM, h2]; rfl, h3⟩
      · exact ⟨pin, xs, by show (loc'.map _)[b]? = _; rw [getM, hother b hu, hb]; rfl, rfl⟩
    · replace hb : st.loc[b]? = some (.row pin τ xs) := hb
      exact ⟨fun c hc => by show F' b c; rw [hF b hn]; exact hc, notUsed b _ hn hb rfl⟩
  have hdr : ∀ b pin τ xs, st.loc[b]? = some (.row pin τ xs) → ∃ base cap, H b = .slice base xs.length cap := h.hdr
  have hst : ({ st with loc := loc' }.kill [] used : St) = { st with fr := killFr [] used st.fr, loc := loc'.map (Blk.kill [] used) } := by
    rw [St.kill_eq]
    simp only [deadAt_nil]
  rw [hst]
  have other : ∀ b (k : Blk), b ∉ used → (loc'.map (Blk.kill [] used))[b]? = some k → ∃ k0, st.loc[b]? = some k0 ∧ k = k0.kill [] used := fun b k hb hk => by
    rw [getM, hother b hb] at hk
    cases hl : st.loc[b]? with
    | none => rw [hl] at hk; cases hk
    | some k0 => rw [hl] at hk; cases hk; exact ⟨k0, rfl, rfl⟩
  refine ⟨h.size, h.defers, fun t => ?_, fun b k hk => ?_, fun b k hk ha c hc => ?_, fun b b' k k' hk hk' ha ha' hne c hc hc' => ?_, fun c hc => ⟨(h.stab c hc).1, (hSh c hc).trans (h.stab c hc).2⟩,
    Nat.le_trans h.grow hsz, hos.trans h.os, htape.trans h.tape, hout.trans h.output, fun b τ xs hk => ?_⟩
  · show fvRel _ (look (killFr [] used st.fr) t) _
    rw [look_kill]
    exact (h.fr t).move M hdr
  · replace hk : (loc'.map (Blk.kill [] used))[b]? = some k := hk
    show blkRel ⟨w'.heap, S, m, H, F', loc'.map (Blk.kill [] used)⟩ b k
    by_cases hu : b ∈ used
    · rw [getM] at hk
      cases hl : loc'[b]? with
      | none => rw [hl] at hk; cases hk
      | some k0 => rw [hl] at hk; cases hk; exact hnew b hu k0 hl
    · obtain ⟨k0, hl, rfl⟩ := other b k hu hk
      have hb0 := h.blk b k0 hl
      cases k0 with
      | dead => trivial
      | box cs =>
        obtain ⟨arr, te, hg, hac, hf⟩ := hb0
        refine ⟨arr, te, (notUsed b _ hu hl rfl _ hf).trans hg, hac.map_left fun _ _ h => h.move M hdr, ?_⟩
        show F' b (m b)
        rw [hF b hu]; exact hf
      | row pin τ xs =>
        obtain ⟨ho, base, cap, e, hbase⟩ := hb0
        refine ⟨?_, base, cap, e, hbase⟩
        show Own w'.heap S (.slice τ) xs [H b] (F' b)
        rw [hF b hu]
        exact Own.mono (fun _ h => h) hSh _ _ _ _ _ (fun _ h => h) (notUsed b _ hu hl rfl) ho
  · replace hk : (loc'.map (Blk.kill [] used))[b]? = some k := hk
    by_cases hu : b ∈ used
    · obtain ⟨h1, h2⟩ := hFnew b hu c hc
      refine ⟨h2, fun hs => ?_⟩
      rcases h1 with ⟨b', hb', h1⟩ | h1
      · obtain ⟨k', hk', ha'⟩ := halive b' hb'
        exact (h.own b' k' hk' ha' c h1).2 hs
      · have := h.S_lt c hs; omega
    · obtain ⟨k0, hl, rfl⟩ := other b k hu hk
      rw [kill_alive] at ha
      rw [hF b hu] at hc
      have := h.own b k0 hl ha c hc
      exact ⟨by omega, this.2⟩
  · replace hk : (loc'.map (Blk.kill [] used))[b]? = some k := hk
    replace hk' : (loc'.map (Blk.kill [] used))[b']? = some k' := hk'
    have sep : ∀ b1 b2 (k1 : Blk), b1 ∉ used → b2 ∈ used → (loc'.map (Blk.kill [] used))[b1]? = some k1 → k1.alive = true → F' b1 c → F' b2 c → False := by
      intro b1 b2 k1 hu1 hu2 hl1 ha1 hc1 hc2
      obtain ⟨k0, hl, rfl⟩ := other b1 k1 hu1 hl1
      rw [kill_alive] at ha1
      rw [hF b1 hu1] at hc1
      rcases (hFnew b2 hu2 c hc2).1 with ⟨b3, hb3, h3⟩ | h3
      · obtain ⟨k3, hk3, ha3⟩ := halive b3 hb3
        exact h.disj b1 b3 k0 k3 hl hk3 ha1 ha3 (fun e => hu1 (e ▸ hb3)) c hc1 h3
      · have := hFlt b1 k0 hl ha1 c hc1; omega
    by_cases hu : b ∈ used <;> by_cases hu' : b' ∈ used
    · exact hdisj b b' hu hu' hne c hc hc'
    · exact sep b' b k' hu' hu hk' ha' hc' hc
    · exact sep b b' k hu hu' hk ha hc hc'
    · obtain ⟨j, hl, rfl⟩ := other b k hu hk
      obtain ⟨j', hl', rfl⟩ := other b' k' hu' hk'
      rw [kill_alive] at ha ha'
      rw [hF b hu] at hc
      rw [hF b' hu'] at hc'
      exact h.disj b b' j j' hl hl' ha ha' hne c hc hc'
  · replace hk : (loc'.map (Blk.kill [] used))[b]? = some (.row true τ xs) := hk
    by_cases hu : b ∈ used
    · rw [getM] at hk
      rcases hkind b hu with ⟨c1, c2, h1, h2⟩ | ⟨pin', τ', xs1, xs', h1, h2, h3⟩
      · rw [h2] at hk; cases hk
      · rw [h2] at hk
        cases hk
        exact h.pin b _ _ h1
    · obtain ⟨k0, hl, e⟩ := other b _ hu hk
      cases k0 with
      | dead => cases e
      | box cs => cases e
      | row pin τ0 xs0 => cases e; exact h.pin b _ _ hl
end
end Go.Fw
/- What a call is lent, and what it lays back. No condition. -/
namespace Go.Fw

/-- A slice inside data: it may be handed out and laid back. -/
theorem Own.lens {h : Heap} {S : Nat → Prop} {e : Ty} {ys : List e.D} : (τ : Ty) → (x : τ.D) → (cs : List Value) → (G : Nat → Prop) → (off : Nat) → Own h S τ x cs G → getSl e τ x off = some ys →
    ∃ v G1, cs[off]? = some v ∧ Own h S (.slice e) ys [v] G1 ∧ (∀ c, G1 c → G c) ∧ ∀ (h' : Heap) (zs : List e.D) (F1 : Nat → Prop), Own h' S (.slice e) zs [v] F1 → (∀ c, S c → h'[c]? = h[c]?) → (∀ c, G c → ¬ G1 c → h'[c]? = h[c]?) →
      (∀ c, F1 c → ¬ (G c ∧ ¬ G1 c)) → ∃ y, putSl e zs τ x off = some y ∧ Own h' S τ y cs (fun c => (G c ∧ ¬ G1 c) ∨ F1 c)
  | .int _, _, _, _, _, _, hg => by cases hg
  | .bool, _, _, _, _, _, hg => by cases hg
  | .flt _, _, _, _, _, _, hg => by cases hg
  | .str, _, _, _, _, _, hg => by cases hg
  | .unit, _, _, _, _, _, hg => by cases hg
  | .rslice _, _, _, _, _, _, hg => by cases hg
  | .ref _, _, _, _, _, _, hg => by cases hg
  | .fn _, _, _, _, _, _, hg => by cases hg
  | .slice τ, x, cs, G, off, r, hg => by
    simp only [getSl] at hg
    obtain ⟨h0, hg⟩ := bif_some hg
    have h0 := Nat.eq_of_beq_eq_true h0
    subst h0
    split at hg
    · rename_i he
      subst he
      cases hg
      have r' := r
      obtain ⟨_, base, cap, rfl, _⟩ := r'
      refine ⟨_, G, rfl, r, fun _ h => h, fun h' zs F1 ho _ _ _ => ⟨zs, ?_, ?_⟩⟩
      · simp [putSl, cstL]
      · exact Own.mono (fun _ h => h) (fun _ _ => rfl) _ _ _ _ _ (fun c hc => .inr hc) (fun _ _ => rfl) ho
    · cases hg
  | .pair a b, x, cs, G, off, r, hg => by
    simp only [getSl] at hg
    obtain ⟨c1, c2, F1, F2, rfl, r1, r2, s1, s2, d⟩ := r
    have l1 := Own.length _ _ _ _ r1
    cases hb : Nat.blt off a.size
    · rw [hb] at hg
      simp only [cond_false] at hg
      have hge : a.size ≤ off := by
        rcases Nat.lt_or_ge off a.size with h1 | h1
        · have : Nat.blt off a.size = true := by simpa [Nat.blt_eq] using h1
          rw [this] at hb; cases hb
        · exact h1
      obtain ⟨v, G1, hv, ho, hs, hback⟩ := Own.lens b x.2 c2 F2 (off - a.size) r2 hg
      refine ⟨v, G1, ?_, ho, fun c hc => s2 c (hs c hc), fun h' zs K ho' hS hG hK => ?_⟩
      · rw [List.getElem?_append_right (by omega), l1]; exact hv
      · obtain ⟨y, hy, hown⟩ := hback h' zs K ho' hS (fun c hc hn => hG c (s2 c hc) hn) (fun c hc hn => hK c hc ⟨s2 c hn.1, hn.2⟩)
        refine ⟨(x.1, y), ?_, c1, c2, F1, _, rfl, Own.mono (fun _ h => h) hS _ _ _ _ _ (fun _ h => h) (fun c hc => hG c (s1 c hc) fun hn => d c hc (hs c hn)) r1, hown, fun c hc => .inl ⟨s1 c hc, fun hn => d c hc (hs c hn)⟩, ?_, ?_⟩
        · simp only [putSl, hb, cond_false, hy]
        · rintro c (⟨h1, h2⟩ | h1)
          · exact .inl ⟨s2 c h1, h2⟩
          · exact .inr h1
        · rintro c hc (⟨h1, h2⟩ | h1)
          · exact d c hc h1
          · exact hK c h1 ⟨s1 c hc, fun hn => d c hc (hs c hn)⟩
    · rw [hb] at hg
      simp only [cond_true] at hg
      have hlt : off < a.size := by simpa [Nat.blt_eq] using hb
      obtain ⟨v, G1, hv, ho, hs, hback⟩ := Own.lens a x.1 c1 F1 off r1 hg
      refine ⟨v, G1, ?_, ho, fun c hc => s1 c (hs c hc), fun h' zs K ho' hS hG hK => ?_⟩
      · rw [List.getElem?_append_left (by omega)]; exact hv
      · obtain ⟨y, hy, hown⟩ := hback h' zs K ho' hS (fun c hc hn => hG c (s1 c hc) hn) (fun c hc hn => hK c hc ⟨s1 c hn.1, hn.2⟩)
        refine ⟨(y, x.2), ?_, c1, c2, _, F2, rfl, hown, Own.mono (fun _ h => h) hS _ _ _ _ _ (fun _ h => h) (fun c hc => hG c (s2 c hc) fun hn => d c (hs c hn) hc) r2, ?_, fun c hc => .inl ⟨s2 c hc, fun hn => d c (hs c hn) hc⟩, ?_⟩
        · simp only [putSl, hb, cond_true, hy]
        · rintro c (⟨h1, h2⟩ | h1)
          · exact .inl ⟨s1 c h1, h2⟩
          · exact .inr h1
        · rintro c (⟨h1, h2⟩ | h1) hc
          · exact d c h1 hc
          · exact hK c h1 ⟨s2 c hc, fun hn => d c (hs c hn) hc⟩

/-- A slice inside an element of a row. -/
theorem row_lens {Γ : Ctx} (hb : ∀ b k, Γ.loc[b]? = some k → blkRel Γ b k) {b i off : Nat} {pin : Bool} {τ τ0 e : Ty} {xs : List τ.D} {zs0 : List τ0.D} {ys : List e.D} {v : Value}
    (hl : Γ.loc[b]? = some (.row pin τ xs)) (hn : slRel Γ (.nest b i off τ0 zs0) v) (hg : getSl e τ (xs.getD i τ.zero) off = some ys) :
    ∃ G1, Own Γ.h Γ.S (.slice e) ys [v] G1 ∧ (∀ c, G1 c → Γ.F b c) ∧ ∀ (h' : Heap) (us : List e.D) (F1 : Nat → Prop), Own h' Γ.S (.slice e) us [v] F1 → (∀ c, Γ.S c → h'[c]? = Γ.h[c]?) →
      (∀ c, Γ.F b c → ¬ G1 c → h'[c]? = Γ.h[c]?) → (∀ c, F1 c → ¬ (Γ.F b c ∧ ¬ G1 c)) → ∃ y, putSl e us τ (xs.getD i τ.zero) off = some y ∧ Own h' Γ.S (.slice τ) (xs.set i y) [Γ.H b] (fun c => (Γ.F b c ∧ ¬ G1 c) ∨ F1 c) := by
  obtain ⟨_, hFm, pin', τ', xs', arr, te, hl', _, hi, hga, hv⟩ := hn
  rw [hl] at hl'
  cases hl'
  obtain ⟨⟨hml, base, cap, eH, hlc, hcm, h3⟩, base', cap', eH', hbase⟩ := hb b _ hl
  rw [eH'] at eH
  simp only [List.cons.injEq, Value.slice.injEq, and_true, true_and] at eH
  obtain ⟨rfl, rfl⟩ := eH
  rcases h3 with h3 | ⟨c, arr', te', rfl, hF, hg', hsz, Gs, g1, g2, hx⟩
  · omega
  · have hc : c = Γ.m b := by
      rcases hbase with h0 | h0
      · omega
      · simpa using h0
    subst hc
    rw [hga] at hg'
    simp only [Option.some.injEq, Obj.cells.injEq, and_true] at hg'
    obtain ⟨rfl, rfl⟩ := hg'
    have hgd : xs.getD i τ.zero = xs[i] := by simp [hi]
    rw [hgd] at hg
    have hxi := hx i xs[i] (List.getElem?_eq_getElem hi)
    obtain ⟨v', G1, hv', ho, hs, hback⟩ := Own.lens τ xs[i] _ (Gs i) off hxi hg
    have ev : v' = v := by
      unfold win at hv'
      rw [List.getElem?_take] at hv'
      split at hv'
      · rw [List.getElem?_drop, hv] at hv'
        simpa using hv'.symm
      · cases hv'
    subst ev
    refine ⟨G1, ho, fun c hc => (g2 i c (hs c hc)).1, fun h' us K ho' hS hG hK => ?_⟩
    obtain ⟨y, hy, hown⟩ := hback h' us K ho' hS (fun c hc hn => hG c (g2 i c hc).1 hn) (fun c hc hn => hK c hc ⟨(g2 i c hn.1).1, hn.2⟩)
    have hmn : ¬ G1 (Γ.m b) := fun hn => (g2 i _ (hs _ hn)).2 rfl
    refine ⟨y, by rw [hgd]; exact hy, ?_⟩
    rw [eH']
    refine ⟨by rw [List.length_set]; exact hml, _, cap', by rw [List.length_set], by rw [List.length_set]; exact hlc, hcm, .inr ⟨Γ.m b, arr, te, rfl, .inl ⟨hF, hmn⟩, (hG _ hF hmn).trans hga, hsz, fun j => if j = i then (fun c => (Gs i c ∧ ¬ G1 c) ∨ K c) else Gs j, ?_, ?_, ?_⟩⟩
    · intro j j' c hj hj'
      by_cases e1 : j = i <;> by_cases e2 : j' = i
      · omega
      · simp only [e1, e2, if_true, if_false] at hj hj'
        rcases hj with hj | hj
        · exact e1.trans (g1 i j' c hj.1 hj')
        · exact absurd ⟨(g2 j' c hj').1, fun hn => e2 (g1 j' i c hj' (hs c hn))⟩ (hK c hj)
      · simp only [e1, e2, if_true, if_false] at hj hj'
        rcases hj' with hj' | hj'
        · exact (g1 j i c hj hj'.1).trans e2.symm
        · exact absurd ⟨(g2 j c hj).1, fun hn => e1 (g1 j i c hj (hs c hn))⟩ (hK c hj')
      · simp only [e1, e2, if_false] at hj hj'
        exact g1 j j' c hj hj'
    · intro j c hj
      by_cases e1 : j = i
      · simp only [e1, if_true] at hj
        rcases hj with hj | hj
        · exact ⟨.inl ⟨(g2 i c hj.1).1, hj.2⟩, (g2 i c hj.1).2⟩
        · exact ⟨.inr hj, fun e => hK c hj (e ▸ ⟨hF, hmn⟩)⟩
      · simp only [e1, if_false] at hj
        exact ⟨.inl ⟨(g2 j c hj).1, fun hn => e1 (g1 j i c hj (hs c hn))⟩, (g2 j c hj).2⟩
    · intro j z hz
      by_cases e1 : j = i
      · subst e1
        rw [List.getElem?_set_self hi] at hz
        cases hz
        simp only [if_true]
        exact hown
      · rw [List.getElem?_set_ne (Ne.symm e1)] at hz
        simp only [e1, if_false]
        exact Own.mono (fun _ h => h) hS _ _ _ _ _ (fun _ h => h) (fun c hc => hG c (g2 j c hc).1 fun hn => e1 (g1 j i c hc (hs c hn))) (hx j z hz)

/-- The rows of one argument, behind the call. -/
structure Back (Γ : Ctx) (h' : Heap) (loc0 loc1 : List Blk) (l : List Nat) (F0 F1 : Nat → Prop) (Fn : Nat → Nat → Prop) : Prop where
  sub : ∀ b, b ∈ l → ∀ c, Fn b c → F1 c ∨ (Γ.F b c ∧ ¬ F0 c)
  disj : ∀ b b', b ∈ l → b' ∈ l → b ≠ b' → ∀ c, Fn b c → ¬ Fn b' c
  row : ∀ b, b ∈ l → ∃ pin τ xs xs', Γ.loc[b]? = some (.row pin τ xs) ∧ loc1[b]? = some (.row pin τ xs') ∧ xs'.length = xs.length ∧ Own h' Γ.S (.slice τ) xs' [Γ.H b] (Fn b)
  other : ∀ b, b ∉ l → loc1[b]? = loc0[b]?

/-- How the machine's memory is behind the call: Ft is what the call was lent. -/
structure Behind (Γ : Ctx) (h' : Heap) (Ft : Nat → Prop) : Prop where
  S : ∀ c, Γ.S c → h'[c]? = Γ.h[c]?
  heap : ∀ c, c < Γ.h.size → ¬ Ft c → h'[c]? = Γ.h[c]?

/-- An argument that is lent, and how it is laid back. -/
structure Lent (Γ : Ctx) (τ : Ty) (cs : List C) (x : τ.D) (l : List Nat) (vs : List Value) (F0 : Nat → Prop) : Prop where
  own : Own Γ.h Γ.S τ x vs F0
  sub : ∀ c, F0 c → rowsF Γ.F l c
  rows : ∀ b, b ∈ l → ∃ pin τ xs, Γ.loc[b]? = some (.row pin τ xs)
  back : ∀ (h' : Heap) (Ft : Nat → Prop) (y : τ.D) (F1 : Nat → Prop) (loc0 : List Blk), Behind Γ h' Ft → (∀ c, F0 c → Ft c) → (∀ c, rowsF Γ.F l c → ¬ F0 c → ¬ Ft c) → (∀ c, F1 c → Ft c ∨ Γ.h.size ≤ c) →
    Own h' Γ.S τ y vs F1 → (∀ b, b ∈ l → loc0[b]? = Γ.loc[b]?) → ∃ Fn, Back Γ h' loc0 (backD τ y cs loc0) l F0 F1 Fn

theorem Back.nil (Γ : Ctx) (h' : Heap) (loc0 : List Blk) (F0 F1 : Nat → Prop) : Back Γ h' loc0 loc0 [] F0 F1 (fun _ _ => False) :=
  ⟨fun _ hb => (nomatch hb), fun _ _ hb => (nomatch hb), fun _ hb => (nomatch hb), fun _ _ => rfl⟩

section
variable {Γ : Ctx} (hb : ∀ b k, Γ.loc[b]? = some k → blkRel Γ b k) (hd : ∀ b b' k k', Γ.loc[b]? = some k → Γ.loc[b']? = some k' → k.alive = true → k'.alive = true → b ≠ b' → ∀ c, Γ.F b c → ¬ Γ.F b' c)
  (hlt : ∀ b k, Γ.loc[b]? = some k → k.alive = true → ∀ c, Γ.F b c → c < Γ.h.size)

theorem lent_flat {τ : Ty} {cs : List C} {x : τ.D} {vs : List Value} (ho : Own Γ.h Γ.S τ x vs (fun _ => False)) (hbk : ∀ y loc0, backD τ y cs loc0 = loc0) : Lent Γ τ cs x [] vs (fun _ => False) :=
  ⟨ho, fun _ h => h.elim, fun _ hb => (nomatch hb), fun h' Ft y F1 loc0 _ _ _ _ _ _ => ⟨fun _ _ => False, by rw [hbk]; exact Back.nil _ _ _ _ _⟩⟩

include hb hd hlt in
theorem ownArg_lent : (τ : Ty) → (cs : List C) → (x : τ.D) → (l : List Nat) → (vs : List Value) → ownArg Γ.loc τ cs = some (x, l) → l.Nodup → All2 (cRel Γ) cs vs → ∃ F0, Lent Γ τ cs x l vs F0
  | .int _, cs, x, l, vs, h, _, ha => by obtain ⟨h2, rfl⟩ := withNil_some h; exact ⟨_, lent_flat (cInt_rel h2 ha) fun _ _ => rfl⟩
  | .bool, cs, x, l, vs, h, _, ha => by obtain ⟨h2, rfl⟩ := withNil_some h; exact ⟨_, lent_flat (cBool_rel h2 ha) fun _ _ => rfl⟩
  | .flt _, cs, x, l, vs, h, _, ha => by obtain ⟨h2, rfl⟩ := withNil_some h; exact ⟨_, lent_flat (cFlt_rel h2 ha) fun _ _ => rfl⟩
  | .str, cs, x, l, vs, h, _, ha => by obtain ⟨h2, rfl⟩ := withNil_some h; exact ⟨_, lent_flat (cStr_rel h2 ha) fun _ _ => rfl⟩
  | .unit, cs, x, l, vs, h, _, ha => by obtain ⟨h2, rfl⟩ := withNil_some h; exact ⟨_, lent_flat (cUnit_rel h2 ha) fun _ _ => rfl⟩
  | .rslice e, cs, x, l, vs, h, _, ha => by
    obtain ⟨h2, rfl⟩ := withNil_some h
    obtain ⟨v, rfl, hr⟩ := viewOf_rel h2 ha
    exact ⟨_, lent_flat hr fun _ _ => rfl⟩
  | .ref e, cs, x, l, vs, h, _, ha => by obtain ⟨h2, rfl⟩ := withNil_some h; exact ⟨_, lent_flat (viewRef_rel h2 ha) fun _ _ => rfl⟩
  | .fn _, cs, x, l, vs, h, _, ha => by obtain ⟨h2, rfl⟩ := withNil_some h; exact ⟨_, lent_flat (cFn_rel h2 ha) fun _ _ => rfl⟩
  | .slice e, cs, x, l, vs, h, _, ha => by
    simp only [ownArg] at h
    unfold lendSl at h
    split at h
    · rename_i b hs
      obtain ⟨v, rfl, hr⟩ := cSl_rel hs ha
      obtain ⟨⟨pin, hl⟩, rfl⟩ := lendRow_some h
      have hown := row_own hb hl hr
      obtain ⟨rfl, _⟩ := hr
      have hcs : cs = [.sl (.row b)] := by
        unfold cSl at hs
        split at hs <;> cases hs
        rfl
      subst hcs
      refine ⟨rowsF Γ.F [b], hown, fun _ h => h, fun b' hb' => ⟨pin, e, x, by simp at hb'; subst hb'; exact hl⟩, fun h' Ft y F1 loc0 _ _ _ _ ho h0 => ?_⟩
      have hl0 : loc0[b]? = some (.row pin e x) := (h0 b (by simp)).trans hl
      obtain ⟨_, base, cap, eH, _⟩ := hb b _ hl
      have hlen : y.length = x.length := by
        obtain ⟨_, base', cap', e', _⟩ := ho
        rw [eH] at e'
        simp only [List.cons.injEq, Value.slice.injEq, and_true] at e'
        exact e'.2.1.symm
      have hback : backD (.slice e) y [.sl (.row b)] loc0 = loc0.set b (.row pin e y) := by
        simp only [backD, hl0]
      rw [hback]
      have hblt : b < loc0.length := (List.getElem?_eq_some_iff.1 hl0).1
      refine ⟨fun _ => F1, ⟨fun _ _ c hc => .inl hc, fun b1 b2 h1 h2 hne => ?_, fun b1 h1 => ?_, fun b1 h1 => ?_⟩⟩
      · simp at h1 h2; omega
      · simp at h1
        subst h1
        exact ⟨pin, e, x, y, hl, List.getElem?_set_self hblt, hlen, ho⟩
      · simp at h1
        exact List.getElem?_set_ne (Ne.symm h1)
    · rename_i b i off τ0 zs0 hs
      obtain ⟨v, rfl, hr⟩ := cSl_rel hs ha
      have hcs : cs = [.sl (.nest b i off τ0 zs0)] := by
        unfold cSl at hs
        split at hs <;> cases hs
        rfl
      subst hcs
      unfold lendNest at h
      split at h
      · rename_i pin τ xs hl
        split at h
        · rename_i ys hg
          cases h
          obtain ⟨G1, ho1, hG1, hback⟩ := row_lens hb hl hr hg
          refine ⟨G1, ho1, fun c hc => ⟨b, by simp, hG1 c hc⟩, fun b' hb' => ⟨pin, τ, xs, by simp at hb'; subst hb'; exact hl⟩, fun h' Ft y F1 loc0 hbh hF0 hnt hF1 ho h0 => ?_⟩
          have hl0 : loc0[b]? = some (.row pin τ xs) := (h0 b (by simp)).trans hl
          obtain ⟨z, hz, hoz⟩ := hback h' y F1 ho hbh.S (fun c hc hn => hbh.heap c (hlt b _ hl rfl c hc) (hnt c ⟨b, by simp, hc⟩ hn))
            (fun c hc hn => by
              rcases hF1 c hc with h1 | h1
              · exact hnt c ⟨b, by simp, hn.1⟩ hn.2 h1
              · have := hlt b _ hl rfl c hn.1; omega)
          have hbk : backD (.slice e) y [.sl (.nest b i off τ0 zs0)] loc0 = loc0.set b (.row pin τ (xs.set i z)) := by
            simp only [backD, hl0, hz]
          rw [hbk]
          have hblt : b < loc0.length := (List.getElem?_eq_some_iff.1 hl0).1
          refine ⟨fun _ => fun c => (Γ.F b c ∧ ¬ G1 c) ∨ F1 c, ⟨fun b1 h1 c hc => ?_, fun b1 b2 h1 h2 hne => ?_, fun b1 h1 => ?_, fun b1 h1 => ?_⟩⟩
          · simp at h1
            subst h1
            exact hc.symm
          · simp at h1 h2; omega
          · simp at h1
            subst h1
            exact ⟨pin, τ, xs, xs.set i z, hl, List.getElem?_set_self hblt, List.length_set, hoz⟩
          · simp at h1
            exact List.getElem?_set_ne (Ne.symm h1)
        · cases h
      · cases h
    · cases h
  | .pair a b, cs, x, l, vs, h, hn, ha => by
    simp only [ownArg] at h
    split at h
    · rename_i x1 l1 x2 l2 hx1 hx2
      cases h
      rw [List.nodup_append] at hn
      obtain ⟨Fa, La⟩ := ownArg_lent a _ x1 l1 _ hx1 hn.1 (ha.take a.size)
      obtain ⟨Fb, Lb⟩ := ownArg_lent b _ x2 l2 _ hx2 hn.2.1 (ha.drop a.size)
      have apart : ∀ c, rowsF Γ.F l1 c → ¬ rowsF Γ.F l2 c := by
        rintro c ⟨b1, h1, h2⟩ ⟨b2, h3, h4⟩
        obtain ⟨_, _, _, e1⟩ := La.rows b1 h1
        obtain ⟨_, _, _, e2⟩ := Lb.rows b2 h3
        exact hd b1 b2 _ _ e1 e2 rfl rfl (hn.2.2 b1 h1 b2 h3) c h2 h4
      refine ⟨fun c => Fa c ∨ Fb c, ⟨_, _, Fa, Fb, (List.take_append_drop a.size vs).symm, La.own, Lb.own, fun _ h => .inl h, fun _ h => .inr h, fun c h1 h2 => apart c (La.sub c h1) (Lb.sub c h2)⟩, ?_, ?_, ?_⟩
      · rintro c (hc | hc)
        · obtain ⟨b', h1, h2⟩ := La.sub c hc; exact ⟨b', by simp [h1], h2⟩
        · obtain ⟨b', h1, h2⟩ := Lb.sub c hc; exact ⟨b', by simp [h1], h2⟩
      · intro b' hb'
        rcases List.mem_append.1 hb' with hb' | hb'
        · exact La.rows b' hb'
        · exact Lb.rows b' hb'
      · intro h' Ft y F1 loc0 hbh hF0 hnt hF1 ho h0
        obtain ⟨c1, c2, G1, G2, ecs, o1, o2, s1, s2, d⟩ := ho
        have hlv := ha.length
        have hlo1 := Own.length _ _ _ _ o1
        have e1 : c1 = vs.take a.size := by rw [ecs, ← hlo1, List.take_left]
        have e2 : c2 = vs.drop a.size := by rw [ecs, ← hlo1, List.drop_left]
        rw [e1] at o1
        rw [e2] at o2
        obtain ⟨Na, Ba⟩ := La.back h' Ft y.1 G1 loc0 hbh (fun c hc => hF0 c (.inl hc)) (fun c ⟨b', h1, h2⟩ hn' => hnt c ⟨b', by simp [h1], h2⟩ fun hx => hx.elim hn' fun hx => apart c ⟨b', h1, h2⟩ (Lb.sub c hx)) (fun c hc => hF1 c (s1 c hc)) o1
          (fun b' hb' => h0 b' (List.mem_append.2 (.inl hb')))
        obtain ⟨Nb, Bb⟩ := Lb.back h' Ft y.2 G2 (backD a y.1 (cs.take a.size) loc0) hbh (fun c hc => hF0 c (.inr hc)) (fun c ⟨b', h1, h2⟩ hn' => hnt c ⟨b', by simp [h1], h2⟩ fun hx => hx.elim (fun hx => apart c (La.sub c hx) ⟨b', h1, h2⟩) hn') (fun c hc => hF1 c (s2 c hc)) o2
          (fun b' hb' => (Ba.other b' fun hm => hn.2.2 b' hm b' hb' rfl).trans (h0 b' (List.mem_append.2 (.inr hb'))))
        have mem : ∀ b', b' ∈ l1 ++ l2 → (b' ∈ l1 ∧ b' ∉ l2) ∨ (b' ∈ l2 ∧ b' ∉ l1) := fun b' hm => by
          rcases List.mem_append.1 hm with h1 | h1
          · exact .inl ⟨h1, fun h2 => hn.2.2 b' h1 b' h2 rfl⟩
          · exact .inr ⟨h1, fun h2 => hn.2.2 b' h2 b' h1 rfl⟩
        have ltA : ∀ b', b' ∈ l1 → ∀ c, Γ.F b' c → c < Γ.h.size := fun b' h1 c hc => by
          obtain ⟨_, _, _, e⟩ := La.rows b' h1; exact hlt b' _ e rfl c hc
        have ltB : ∀ b', b' ∈ l2 → ∀ c, Γ.F b' c → c < Γ.h.size := fun b' h1 c hc => by
          obtain ⟨_, _, _, e⟩ := Lb.rows b' h1; exact hlt b' _ e rfl c hc
        -- what one side got back lies not in what the other side kept
        have keepB : ∀ b', b' ∈ l2 → ∀ c, G1 c → Γ.F b' c → ¬ Fb c → False := fun b' h1 c hg hf hnb => by
          rcases hF1 c (s1 c hg) with h2 | h2
          · exact hnt c ⟨b', by simp [h1], hf⟩ (fun hx => hx.elim (fun hx => apart c (La.sub c hx) ⟨b', h1, hf⟩) hnb) h2
          · have := ltB b' h1 c hf; omega
        have keepA : ∀ b', b' ∈ l1 → ∀ c, G2 c → Γ.F b' c → ¬ Fa c → False := fun b' h1 c hg hf hna => by
          rcases hF1 c (s2 c hg) with h2 | h2
          · exact hnt c ⟨b', by simp [h1], hf⟩ (fun hx => hx.elim hna fun hx => apart c ⟨b', h1, hf⟩ (Lb.sub c hx)) h2
          · have := ltA b' h1 c hf; omega
        have cross : ∀ b1 b2, b1 ∈ l1 → b2 ∈ l2 → ∀ c, Na b1 c → ¬ Nb b2 c := fun b1 b2 h1 h2 c hc1 hc2 => by
          rcases Ba.sub b1 h1 c hc1 with h3 | ⟨h3, h3'⟩ <;> rcases Bb.sub b2 h2 c hc2 with h4 | ⟨h4, h4'⟩
          · exact d c h3 h4
          · exact keepB b2 h2 c h3 h4 h4'
          · exact keepA b1 h1 c h4 h3 h3'
          · exact apart c ⟨b1, h1, h3⟩ ⟨b2, h2, h4⟩
        refine ⟨fun b' => bif memB l1 b' then Na b' else Nb b', ⟨fun b' hm c hc => ?_, fun b1 b2 hm1 hm2 hne c hc1 hc2 => ?_, fun b' hm => ?_, fun b' hm => ?_⟩⟩
        · rcases mem b' hm with ⟨h1, _⟩ | ⟨h1, h2⟩
          · rw [(memB_iff _ _).2 h1] at hc
            rcases Ba.sub b' h1 c hc with h3 | ⟨h3, h4⟩
            · exact .inl (s1 c h3)
            · exact .inr ⟨h3, fun hx => hx.elim h4 fun hx => apart c ⟨b', h1, h3⟩ (Lb.sub c hx)⟩
          · rw [(memB_false _ _).2 h2] at hc
            rcases Bb.sub b' h1 c hc with h3 | ⟨h3, h4⟩
            · exact .inl (s2 c h3)
            · exact .inr ⟨h3, fun hx => hx.elim (fun hx => apart c (La.sub c hx) ⟨b', h1, h3⟩) h4⟩
        · rcases mem b1 hm1 with ⟨h1, _⟩ | ⟨h1, h1'⟩ <;> rcases mem b2 hm2 with ⟨h2, _⟩ | ⟨h2, h2'⟩
          · rw [(memB_iff _ _).2 h1] at hc1; rw [(memB_iff _ _).2 h2] at hc2
            exact Ba.disj b1 b2 h1 h2 hne c hc1 hc2
          · rw [(memB_iff _ _).2 h1] at hc1; rw [(memB_false _ _).2 h2'] at hc2
            exact cross b1 b2 h1 h2 c hc1 hc2
          · rw [(memB_false _ _).2 h1'] at hc1; rw [(memB_iff _ _).2 h2] at hc2
            exact cross b2 b1 h2 h1 c hc2 hc1
          · rw [(memB_false _ _).2 h1'] at hc1; rw [(memB_false _ _).2 h2'] at hc2
            exact Bb.disj b1 b2 h1 h2 hne c hc1 hc2
        · rcases mem b' hm with ⟨h1, h2⟩ | ⟨h1, h2⟩
          · obtain ⟨pin, τ, xs, xs', e1, e2, e3, e4⟩ := Ba.row b' h1
            refine ⟨pin, τ, xs, xs', e1, ?_, e3, ?_⟩
            · show (backD b y.2 _ (backD a y.1 _ loc0))[b']? = _
              rw [Bb.other b' h2]; exact e2
            · rw [(memB_iff _ _).2 h1]; exact e4
          · obtain ⟨pin, τ, xs, xs', e1, e2, e3, e4⟩ := Bb.row b' h1
            refine ⟨pin, τ, xs, xs', e1, e2, e3, ?_⟩
            rw [(memB_false _ _).2 h2]; exact e4
        · have h1 : b' ∉ l1 := fun hx => hm (List.mem_append.2 (.inl hx))
          have h2 : b' ∉ l2 := fun hx => hm (List.mem_append.2 (.inr hx))
          exact (Bb.other b' h2).trans (Ba.other b' h1)
    · cases h
end
end Go.Fw
/- A call that changes what it is lent is what the machine does. No condition. -/
namespace Go.Fw

theorem Rel.killed {w0 : W0} {w : World} {S : Nat → Prop} {m : Nat → Nat} {H : Nat → Value} {F : Nat → Nat → Prop} {st : St} {a : Act} (h : Rel w0 S m H F st a w) (ds ns : List Nat) :
    Rel w0 S m H F (st.kill ds ns) a w ∧ Moves ⟨w.heap, S, m, H, F, st.loc⟩ ⟨w.heap, S, m, H, F, (st.kill ds ns).loc⟩ ds ns := by
  have hst := St.kill_eq st ds ns
  have getM : ∀ b, ((st.kill ds ns).loc)[b]? = (st.loc[b]?).map fun k => (bif memB ds b then Blk.dead else k).kill ds ns := fun b => by rw [hst]; exact kill_loc_get ds ns st.loc b
  have M : Moves ⟨w.heap, S, m, H, F, st.loc⟩ ⟨w.heap, S, m, H, F, (st.kill ds ns).loc⟩ ds ns := by
    refine ⟨fun _ h => h, fun _ _ => rfl, fun b cs hb hl => ⟨rfl, cs.map (C.kill ds ns), ?_⟩, fun b pin τ xs hb hl => ⟨rfl, rfl, pin, xs, ?_, rfl⟩, fun b pin τ xs hb hn hl _ => ⟨fun _ h => h, fun _ _ => rfl⟩⟩
    · show (st.kill ds ns).loc[b]? = _
      rw [getM, show st.loc[b]? = _ from hl, Option.map_some, (memB_false _ _).2 hb]; rfl
    · show (st.kill ds ns).loc[b]? = _
      rw [getM, show st.loc[b]? = _ from hl, Option.map_some, (memB_false _ _).2 hb]; rfl
  have hdr : ∀ b pin τ xs, st.loc[b]? = some (.row pin τ xs) → ∃ base cap, H b = .slice base xs.length cap := h.hdr
  have other : ∀ b (k : Blk), (st.kill ds ns).loc[b]? = some k → k.alive = true → ∃ k0, b ∉ ds ∧ st.loc[b]? = some k0 ∧ k0.alive = true ∧ k = k0.kill ds ns := by
    intro b k hl ha
    rw [getM] at hl
    cases hl0 : st.loc[b]? with
    | none => rw [hl0] at hl; cases hl
    | some k0 =>
      rw [hl0] at hl
      cases hmem : memB ds b
      · rw [hmem] at hl
        simp only [Option.map_some, cond_false, Option.some.injEq] at hl
        subst hl
        exact ⟨k0, (memB_false _ _).1 hmem, rfl, by rwa [kill_alive] at ha, rfl⟩
      · rw [hmem] at hl
        simp only [Option.map_some, cond_true, Option.some.injEq] at hl
        subst hl
        cases ha
  refine ⟨⟨?_, h.defers, fun t => ?_, fun b k hk => ?_, fun b k hk ha c hc => ?_, fun b b' k k' hk hk' ha ha' hne => ?_, h.stab, h.grow, h.os, h.tape, h.output, fun b τ xs hk => ?_⟩, M⟩
  · rw [hst]; exact h.size
  · have : (st.kill ds ns).fr = killFr ds ns st.fr := by rw [hst]
    rw [this, look_kill]
    exact (h.fr t).move M hdr
  · cases hka : k.alive
    · cases k <;> simp [Blk.alive] at hka; trivial
    · obtain ⟨k0, hd, hl0, ha0, rfl⟩ := other b k hk hka
      have hb0 := h.blk b k0 hl0
      cases k0 with
      | dead => trivial
      | box cs =>
        obtain ⟨arr, te, hg, hac, hf⟩ := hb0
        exact ⟨arr, te, hg, hac.map_left fun _ _ h => h.move M hdr, hf⟩
      | row pin τ xs => exact hb0
  · obtain ⟨k0, hd, hl0, ha0, rfl⟩ := other b k hk ha
    exact h.own b k0 hl0 ha0 c hc
  · obtain ⟨k0, hd, hl0, ha0, rfl⟩ := other b k hk ha
    obtain ⟨k1, hd1, hl1, ha1, rfl⟩ := other b' k' hk' ha'
    exact h.disj b b' k0 k1 hl0 hl1 ha0 ha1 hne
  · obtain ⟨k0, hd, hl0, ha0, e⟩ := other b _ hk rfl
    cases k0 with
    | dead => cases e
    | box cs => cases e
    | row pin τ0 xs0 => cases e; exact h.pin b _ _ hl0

/-- New blocks in a world that stays. -/
theorem Rel.more {w0 : W0} {w : World} {S : Nat → Prop} {m m' : Nat → Nat} {H H' : Nat → Value} {F F' : Nat → Nat → Prop} {st : St} {a : Act} (h : Rel w0 S m H F st a w) {dst : Option Tmp} {v : FV} {v' : Value} {bs : List Blk} (hd : dstOk st.n dst = true)
    (f1 : ∀ b, b < st.loc.length → m' b = m b ∧ H' b = H b ∧ F' b = F b) (f2 : fvRel ⟨w.heap, S, m', H', F', st.loc ++ bs⟩ v v')
    (f3 : ∀ j k, bs[j]? = some k → blkRel ⟨w.heap, S, m', H', F', st.loc ++ bs⟩ (st.loc.length + j) k ∧ ∀ c, F' (st.loc.length + j) c → c < w.heap.size ∧ ¬ S c ∧ ∀ b k, st.loc[b]? = some k → k.alive = true → ¬ F b c)
    (f4 : ∀ j j', j ≠ j' → j < bs.length → j' < bs.length → ∀ c, F' (st.loc.length + j) c → ¬ F' (st.loc.length + j') c)
    (f5 : ∀ (j : Nat) (τ : Ty) (xs : List τ.D), bs[j]? = some (Blk.row true τ xs) → False) : Rel w0 S m' H' F' (st.bind dst v bs) (a.put dst v') w := by
  have M : Moves ⟨w.heap, S, m, H, F, st.loc⟩ ⟨w.heap, S, m', H', F', st.loc ++ bs⟩ [] [] := Moves.more f1
  have hsz : (a.put dst v').tmps.size = a.tmps.size := by cases dst <;> simp [Act.put]
  have old : ∀ t, fvRel ⟨w.heap, S, m', H', F', st.loc ++ bs⟩ (look st.fr t) (a.tmps.getD t undef) := fun t => (h.fr t).same M
  have new : ∀ b k, (st.loc ++ bs)[b]? = some k → b < st.loc.length ∧ st.loc[b]? = some k ∨ ∃ j, b = st.loc.length + j ∧ bs[j]? = some k := by
    intro b k hk
    rcases Nat.lt_or_ge b st.loc.length with hlt | hge
    · rw [getElem?_append_lt hlt] at hk; exact .inl ⟨hlt, hk⟩
    · rw [List.getElem?_append_right hge] at hk; exact .inr ⟨b - st.loc.length, by omega, hk⟩
  refine ⟨hsz.trans h.size, by cases dst <;> exact h.defers, ?_, ?_, ?_, ?_, h.stab, h.grow, h.os, h.tape, h.output, ?_⟩
  · intro t
    cases dst with
    | none => exact old t
    | some d =>
      have hlt : d < a.tmps.size := by rw [h.size]; simpa [dstOk, Nat.blt_eq] using hd
      show fvRel _ (look ((d, v) :: st.fr) t) _
      simp only [look]
      cases hb : Nat.beq d t
      · have hne : d ≠ t := fun e => by subst e; simp at hb
        rw [getD_put_ne a d t v' undef hne]
        exact old t
      · have he : d = t := Nat.eq_of_beq_eq_true hb
        subst he
        rw [getD_put_same a d v' undef hlt]
        exact f2
  · intro b k hk
    rcases new b k hk with ⟨hlt, hk'⟩ | ⟨j, rfl, hj⟩
    · exact (h.blk b k hk').same M (f1 b hlt) (fun _ _ => rfl)
    · exact (f3 j k hj).1
  · intro b k hk hal c hc
    rcases new b k hk with ⟨hlt, hk'⟩ | ⟨j, rfl, hj⟩
    · rw [(f1 b hlt).2.2] at hc
      exact h.own b k hk' hal c hc
    · have := (f3 j k hj).2 c hc
      exact ⟨this.1, this.2.1⟩
  · intro b b' k k' hk hk' ha ha' hne c hc hc'
    rcases new b k hk with ⟨hlt, hk1⟩ | ⟨j, rfl, hj⟩ <;> rcases new b' k' hk' with ⟨hlt', hk1'⟩ | ⟨j', rfl, hj'⟩
    · rw [(f1 b hlt).2.2] at hc
      rw [(f1 b' hlt').2.2] at hc'
      exact h.disj b b' k k' hk1 hk1' ha ha' hne c hc hc'
    · rw [(f1 b hlt).2.2] at hc
      exact ((f3 j' k' hj').2 c hc').2.2 b k hk1 ha hc
    · rw [(f1 b' hlt').2.2] at hc'
      exact ((f3 j k hj).2 c hc).2.2 b' k' hk1' ha' hc'
    · exact f4 j j' (by omega) (List.getElem?_eq_some_iff.1 hj).1 (List.getElem?_eq_some_iff.1 hj').1 c hc hc'
  · intro b τ xs hb
    rcases new b _ hb with ⟨hlt, hk⟩ | ⟨j, rfl, hj⟩
    · exact (f1 b hlt).2.1.trans (h.pin b τ xs hk)
    · exact (f5 j τ xs hj).elim

theorem backD_length : (τ : Ty) → (y : τ.D) → (cs : List C) → (loc : List Blk) → (backD τ y cs loc).length = loc.length
  | .int _, _, _, _ => rfl
  | .bool, _, _, _ => rfl
  | .flt _, _, _, _ => rfl
  | .str, _, _, _ => rfl
  | .unit, _, _, _ => rfl
  | .rslice _, _, _, _ => rfl
  | .ref _, _, _, _ => rfl
  | .fn _, _, _, _ => rfl
  | .pair a b, y, cs, loc => by simp only [backD]; rw [backD_length b, backD_length a]
  | .slice e, y, cs, loc => by
    unfold backD
    split
    · rename_i h1 h2 h3; cases h2
    · split <;> simp
    · split
      · split <;> simp
      · rfl
    · rfl

theorem backP_length (p : PTy) (y : p.D) (fv : FV) (loc : List Blk) : (backP p y fv loc).length = loc.length := by
  unfold backP
  split
  · exact backD_length _ _ _ _
  · exact backD_length _ _ _ _
  · rfl

theorem backPs_length : (ps : List PTy) → (ds : PD ps) → (fvs : List FV) → (loc : List Blk) → (backPs ps ds fvs loc).length = loc.length
  | [], _, [], _ => rfl
  | [], _, _ :: _, _ => rfl
  | _ :: _, _, [], _ => rfl
  | p :: r, ds, v :: vs, loc => by simp only [backPs]; rw [backPs_length r, backP_length]

/-- Two arguments' rows, one behind the other. -/
theorem Back.comp {Γ : Ctx} {h' : Heap} {loc0 loc1 loc2 : List Blk} {l1 l2 : List Nat} {Fa Fb G1 G2 F1 Ft : Nat → Prop} {Na Nb : Nat → Nat → Prop} (hn : (l1 ++ l2).Nodup)
    (hlt1 : ∀ b, b ∈ l1 → ∀ c, Γ.F b c → c < Γ.h.size) (hlt2 : ∀ b, b ∈ l2 → ∀ c, Γ.F b c → c < Γ.h.size) (apart : ∀ c, rowsF Γ.F l1 c → ¬ rowsF Γ.F l2 c) (sa : ∀ c, Fa c → rowsF Γ.F l1 c) (sb : ∀ c, Fb c → rowsF Γ.F l2 c)
    (hnt : ∀ c, rowsF Γ.F (l1 ++ l2) c → ¬ (Fa c ∨ Fb c) → ¬ Ft c) (hF1 : ∀ c, F1 c → Ft c ∨ Γ.h.size ≤ c) (s1 : ∀ c, G1 c → F1 c) (s2 : ∀ c, G2 c → F1 c) (d : ∀ c, G1 c → ¬ G2 c)
    (Ba : Back Γ h' loc0 loc1 l1 Fa G1 Na) (Bb : Back Γ h' loc1 loc2 l2 Fb G2 Nb) : ∃ Fn, Back Γ h' loc0 loc2 (l1 ++ l2) (fun c => Fa c ∨ Fb c) F1 Fn := by
  have hn' := List.nodup_append.1 hn
  have mem : ∀ b', b' ∈ l1 ++ l2 → (b' ∈ l1 ∧ b' ∉ l2) ∨ (b' ∈ l2 ∧ b' ∉ l1) := fun b' hm => by
    rcases List.mem_append.1 hm with h1 | h1
    · exact .inl ⟨h1, fun h2 => hn'.2.2 b' h1 b' h2 rfl⟩
    · exact .inr ⟨h1, fun h2 => hn'.2.2 b' h2 b' h1 rfl⟩
  have keepB : ∀ b', b' ∈ l2 → ∀ c, G1 c → Γ.F b' c → ¬ Fb c → False := fun b' h1 c hg hf hnb => by
    rcases hF1 c (s1 c hg) with h2 | h2
    · exact hnt c ⟨b', by simp [h1], hf⟩ (fun hx => hx.elim (fun hx => apart c (sa c hx) ⟨b', h1, hf⟩) hnb) h2
    · have := hlt2 b' h1 c hf; omega
  have keepA : ∀ b', b' ∈ l1 → ∀ c, G2 c → Γ.F b' c → ¬ Fa c → False := fun b' h1 c hg hf hna => by
    rcases hF1 c (s2 c hg) with h2 | h2
    · exact hnt c ⟨b', by simp [h1], hf⟩ (fun hx => hx.elim hna fun hx => apart c ⟨b', h1, hf⟩ (sb c hx)) h2
    · have := hlt1 b' h1 c hf; omega
  have cross : ∀ b1 b2, b1 ∈ l1 → b2 ∈ l2 → ∀ c, Na b1 c → ¬ Nb b2 c := fun b1 b2 h1 h2 c hc1 hc2 => by
    rcases Ba.sub b1 h1 c hc1 with h3 | ⟨h3, h3'⟩ <;> rcases Bb.sub b2 h2 c hc2 with h4 | ⟨h4, h4'⟩
    · exact d c h3 h4
    · exact keepB b2 h2 c h3 h4 h4'
    · exact keepA b1 h1 c h4 h3 h3'
    · exact apart c ⟨b1, h1, h3⟩ ⟨b2, h2, h4⟩
  refine ⟨fun b' => bif memB l1 b' then Na b' else Nb b', ⟨fun b' hm c hc => ?_, fun b1 b2 hm1 hm2 hne c hc1 hc2 => ?_, fun b' hm => ?_, fun b' hm => ?_⟩⟩
  · rcases mem b' hm with ⟨h1, _⟩ | ⟨h1, h2⟩
    · rw [(memB_iff _ _).2 h1] at hc
      rcases Ba.sub b' h1 c hc with h3 | ⟨h3, h4⟩
      · exact .inl (s1 c h3)
      · exact .inr ⟨h3, fun hx => hx.elim h4 fun hx => apart c ⟨b', h1, h3⟩ (sb c hx)⟩
    · rw [(memB_false _ _).2 h2] at hc
      rcases Bb.sub b' h1 c hc with h3 | ⟨h3, h4⟩
      · exact .inl (s2 c h3)
      · exact .inr ⟨h3, fun hx => hx.elim (fun hx => apart c (sa c hx) ⟨b', h1, h3⟩) h4⟩
  · rcases mem b1 hm1 with ⟨h1, _⟩ | ⟨h1, h1'⟩ <;> rcases mem b2 hm2 with ⟨h2, _⟩ | ⟨h2, h2'⟩
    · rw [(memB_iff _ _).2 h1] at hc1; rw [(memB_iff _ _).2 h2] at hc2
      exact Ba.disj b1 b2 h1 h2 hne c hc1 hc2
    · rw [(memB_iff _ _).2 h1] at hc1; rw [(memB_false _ _).2 h2'] at hc2
      exact cross b1 b2 h1 h2 c hc1 hc2
    · rw [(memB_false _ _).2 h1'] at hc1; rw [(memB_iff _ _).2 h2] at hc2
      exact cross b2 b1 h2 h1 c hc2 hc1
    · rw [(memB_false _ _).2 h1'] at hc1; rw [(memB_false _ _).2 h2'] at hc2
      exact Bb.disj b1 b2 h1 h2 hne c hc1 hc2
  · rcases mem b' hm with ⟨h1, h2⟩ | ⟨h1, h2⟩
    · obtain ⟨pin, τ, xs, xs', e1, e2, e3, e4⟩ := Ba.row b' h1
      refine ⟨pin, τ, xs, xs', e1, (Bb.other b' h2).trans e2, e3, ?_⟩
      rw [(memB_iff _ _).2 h1]; exact e4
    · obtain ⟨pin, τ, xs, xs', e1, e2, e3, e4⟩ := Bb.row b' h1
      refine ⟨pin, τ, xs, xs', e1, e2, e3, ?_⟩
      rw [(memB_false _ _).2 h2]; exact e4
  · have h1 : b' ∉ l1 := fun hx => hm (List.mem_append.2 (.inl hx))
    have h2 : b' ∉ l2 := fun hx => hm (List.mem_append.2 (.inr hx))
    exact (Bb.other b' h2).trans (Ba.other b' h1)

/-- Arguments of a call that changes what it is lent. Δ: the context without the lent rows. -/
structure LentP (Γ Δ : Ctx) (p : PTy) (fv : FV) (x : p.D) (l : List Nat) (v : Value) (F0 : Nat → Prop) : Prop where
  arg : ∀ T : Nat → Prop, (∀ b k, Δ.loc[b]? = some k → k.alive = true → ∀ c, Δ.F b c → T c) → (∀ c, Δ.S c → T c) → ArgRel Γ.h T p x v F0
  sub : ∀ c, F0 c → rowsF Γ.F l c
  rows : ∀ b, b ∈ l → ∃ pin τ xs, Γ.loc[b]? = some (.row pin τ xs)
  back : ∀ (h' : Heap) (T Ft : Nat → Prop) (y : p.D) (F1 : Nat → Prop) (loc0 : List Blk), Behind Γ h' Ft → (∀ c, F0 c → Ft c) → (∀ c, rowsF Γ.F l c → ¬ F0 c → ¬ Ft c) → (∀ c, F1 c → Ft c ∨ Γ.h.size ≤ c) →
    ArgRel h' T p y v F1 → (∀ b, b ∈ l → loc0[b]? = Γ.loc[b]?) → ∃ Fn, Back Γ h' loc0 (backP p y fv loc0) l F0 F1 Fn

structure LentPs (Γ Δ : Ctx) (ps : List PTy) (fvs : List FV) (ds : PD ps) (l : List Nat) (vs : List Value) (F0 : Nat → Prop) : Prop where
  arg : ∀ T : Nat → Prop, (∀ b k, Δ.loc[b]? = some k → k.alive = true → ∀ c, Δ.F b c → T c) → (∀ c, Δ.S c → T c) → ArgsRel Γ.h T ps ds vs F0
  sub : ∀ c, F0 c → rowsF Γ.F l c
  rows : ∀ b, b ∈ l → ∃ pin τ xs, Γ.loc[b]? = some (.row pin τ xs)
  back : ∀ (h' : Heap) (T Ft : Nat → Prop) (y : PD ps) (F1 : Nat → Prop) (loc0 : List Blk), Behind Γ h' Ft → (∀ c, F0 c → Ft c) → (∀ c, rowsF Γ.F l c → ¬ F0 c → ¬ Ft c) → (∀ c, F1 c → Ft c ∨ Γ.h.size ≤ c) →
    ArgsRel h' T ps y vs F1 → (∀ b, b ∈ l → loc0[b]? = Γ.loc[b]?) → ∃ Fn, Back Γ h' loc0 (backPs ps y fvs loc0) l F0 F1 Fn

section
variable {Γ Δ : Ctx} (hb : ∀ b k, Γ.loc[b]? = some k → blkRel Γ b k) (hd : ∀ b b' k k', Γ.loc[b]? = some k → Γ.loc[b']? = some k' → k.alive = true → k'.alive = true → b ≠ b' → ∀ c, Γ.F b c → ¬ Γ.F b' c)
  (hlt : ∀ b k, Γ.loc[b]? = some k → k.alive = true → ∀ c, Γ.F b c → c < Γ.h.size) (hdr : ∀ b pin τ xs, Γ.loc[b]? = some (.row pin τ xs) → ∃ base cap, Γ.H b = .slice base xs.length cap)
  {used : List Nat} (eΔ : Δ = ⟨Γ.h, Γ.S, Γ.m, Γ.H, Γ.F, (deadAt used 0 Γ.loc).map (Blk.kill used [])⟩) (hbΔ : ∀ b k, Δ.loc[b]? = some k → blkRel Δ b k) (hdrΔ : ∀ b pin τ xs, Δ.loc[b]? = some (.row pin τ xs) → ∃ base cap, Δ.H b = .slice base xs.length cap)

include eΔ hbΔ hdrΔ in
theorem ro_lent {p : PTy} {fv : FV} {x : p.D} {v : Value} (hp : ∀ y loc0, backP p y fv loc0 = loc0) (hm : argD ((deadAt used 0 Γ.loc).map (Blk.kill used [])) p (fv.kill used []) = some x)
    (hr : fvRel Δ (fv.kill used []) v) : LentP Γ Δ p fv x [] v (fun _ => False) := by
  refine ⟨fun T h1 h2 => ?_, fun _ h => h.elim, fun _ hb => (nomatch hb), fun h' T Ft y F1 loc0 _ _ _ _ _ _ => ⟨fun _ _ => False, by rw [hp]; exact Back.nil _ _ _ _ _⟩⟩
  have := argD_rel (Γ := Δ) (T := T) hbΔ h1 h2 hdrΔ (p := p) (fv := fv.kill used []) (x := x) (v := v) (by rw [eΔ]; exact hm) hr
  rw [eΔ] at this
  exact this

include hb hd hlt hdr eΔ hbΔ hdrΔ in
theorem usedP_lent {p : PTy} {fv : FV} {x : p.D} {l : List Nat} {v : Value} (hu : usedP Γ.loc p fv = some l) (hn : l.Nodup) (hm : mutD Γ.loc used p fv = some x) (hr : fvRel Γ fv v) (hrΔ : fvRel Δ (fv.kill used []) v) :
    ∃ F0, LentP Γ Δ p fv x l v F0 := by
  cases p with
  | own ag τ =>
    unfold usedP at hu
    split at hu
    · rename_i σ c e
      cases e
      obtain ⟨hno, hu⟩ := bif_some hu
      split at hu
      · rename_i y l' ho
        cases hu
        simp only [mutD, ho, Option.some.injEq] at hm
        subst hm
        obtain ⟨F0, L⟩ := ownArg_lent hb hd hlt τ [c] y l [v] ho hn (.cons hr .nil)
        refine ⟨F0, fun T _ _ => ⟨Own.noR _ _ _ _ hno L.own, cRel.one hdr hr⟩, L.sub, L.rows, fun h' T Ft y F1 loc0 h1 h2 h3 h4 h5 h6 => ?_⟩
        exact L.back h' Ft y F1 loc0 h1 h2 h3 h4 (Own.noR _ _ _ _ hno h5.1) h6
      · cases hu
    · rename_i σ cs e
      cases e
      obtain ⟨hno, hu⟩ := bif_some hu
      split at hu
      · rename_i y l' ho
        cases hu
        simp only [mutD, ho, Option.some.injEq] at hm
        subst hm
        obtain ⟨arr, rfl, ha⟩ := hr
        obtain ⟨F0, L⟩ := ownArg_lent hb hd hlt τ cs y l arr.toList ho hn ha
        refine ⟨F0, fun T _ _ => ⟨arr, rfl, Own.noR _ _ _ _ hno L.own⟩, L.sub, L.rows, fun h' T Ft y F1 loc0 h1 h2 h3 h4 h5 h6 => ?_⟩
        obtain ⟨arr', e, h5⟩ := h5
        cases e
        exact L.back h' Ft y F1 loc0 h1 h2 h3 h4 (Own.noR _ _ _ _ hno h5) h6
      · cases hu
    · cases hu
    · rename_i e; cases e
    · simp_all
  | optr τ => cases hu
  | ro ag τ => cases hu; exact ⟨_, ro_lent eΔ hbΔ hdrΔ (fun y loc0 => rfl) hm hrΔ⟩
  | rptr τ => cases hu; exact ⟨_, ro_lent eΔ hbΔ hdrΔ (fun y loc0 => rfl) hm hrΔ⟩
  | fnc f caps => cases hu; exact ⟨_, ro_lent eΔ hbΔ hdrΔ (fun y loc0 => rfl) hm hrΔ⟩

include hb hd hlt hdr eΔ hbΔ hdrΔ in
theorem usedPs_lent : ∀ (ps : List PTy) (fvs : List FV) (ds : PD ps) (l : List Nat) (vs : List Value), usedPs Γ.loc ps fvs = some l → l.Nodup → mutsD Γ.loc used ps fvs = some ds → All2 (fvRel Γ) fvs vs → All2 (fvRel Δ) (fvs.map (FV.kill used [])) vs →
    ∃ F0, LentPs Γ Δ ps fvs ds l vs F0
  | [], [], ds, l, vs, hu, hn, hm, ha, _ => by
    cases ha
    cases hu
    exact ⟨fun _ => False, fun _ _ _ => rfl, fun _ h => h.elim, fun _ hb => (nomatch hb), fun h' T Ft y F1 loc0 _ _ _ _ _ _ => ⟨fun _ _ => False, Back.nil _ _ _ _ _⟩⟩
  | [], _ :: _, ds, l, vs, hu, hn, hm, ha, _ => by cases hu
  | _ :: _, [], ds, l, vs, hu, hn, hm, ha, _ => by cases hu
  | p :: r, fv :: fvs, ds, l, vs, hu, hn, hm, ha, haΔ => by
    simp only [usedPs] at hu
    split at hu
    · rename_i l1 l2 hu1 hu2
      cases hu
      simp only [mutsD] at hm
      split at hm
      · rename_i x y hm1 hm2
        cases hm
        cases ha with
        | cons h1 t =>
          cases haΔ with
          | cons h1Δ tΔ =>
            rename_i v vr
            have hn' := List.nodup_append.1 hn
            obtain ⟨Fa, La⟩ := usedP_lent hb hd hlt hdr eΔ hbΔ hdrΔ hu1 hn'.1 hm1 h1 h1Δ
            obtain ⟨Fb, Lb⟩ := usedPs_lent r fvs y l2 vr hu2 hn'.2.1 hm2 t tΔ
            have apart : ∀ c, rowsF Γ.F l1 c → ¬ rowsF Γ.F l2 c := by
              rintro c ⟨b1, h1, h2⟩ ⟨b2, h3, h4⟩
              obtain ⟨_, _, _, e1⟩ := La.rows b1 h1
              obtain ⟨_, _, _, e2⟩ := Lb.rows b2 h3
              exact hd b1 b2 _ _ e1 e2 rfl rfl (hn'.2.2 b1 h1 b2 h3) c h2 h4
            refine ⟨fun c => Fa c ∨ Fb c, fun T hT1 hT2 => ⟨v, vr, Fa, Fb, rfl, La.arg T hT1 hT2, Lb.arg T hT1 hT2, fun _ h => .inl h, fun _ h => .inr h, fun c h1 h2 => apart c (La.sub c h1) (Lb.sub c h2)⟩, ?_, ?_, ?_⟩
            · rintro c (hc | hc)
              · obtain ⟨b', h1, h2⟩ := La.sub c hc; exact ⟨b', by simp [h1], h2⟩
              · obtain ⟨b', h1, h2⟩ := Lb.sub c hc; exact ⟨b', by simp [h1], h2⟩
            · intro b' hb'
              rcases List.mem_append.1 hb' with hb' | hb'
              · exact La.rows b' hb'
              · exact Lb.rows b' hb'
            · intro h' T Ft z F1 loc0 hbh hF0 hnt hF1 hz h0
              obtain ⟨v', vr', G1, G2, e, z1, z2, s1, s2, d⟩ := hz
              cases e
              obtain ⟨Na, Ba⟩ := La.back h' T Ft z.1 G1 loc0 hbh (fun c hc => hF0 c (.inl hc)) (fun c ⟨b', h1, h2⟩ hx => hnt c ⟨b', by simp [h1], h2⟩ fun hy => hy.elim hx fun hy => apart c ⟨b', h1, h2⟩ (Lb.sub c hy)) (fun c hc => hF1 c (s1 c hc)) z1
                (fun b' hb' => h0 b' (List.mem_append.2 (.inl hb')))
              obtain ⟨Nb, Bb⟩ := Lb.back h' T Ft z.2 G2 (backP p z.1 fv loc0) hbh (fun c hc => hF0 c (.inr hc)) (fun c ⟨b', h1, h2⟩ hx => hnt c ⟨b', by simp [h1], h2⟩ fun hy => hy.elim (fun hy => apart c (La.sub c hy) ⟨b', h1, h2⟩) hx) (fun c hc => hF1 c (s2 c hc)) z2
                (fun b' hb' => (Ba.other b' fun hm => hn'.2.2 b' hm b' hb' rfl).trans (h0 b' (List.mem_append.2 (.inr hb'))))
              exact Back.comp hn (fun b' h1 c hc => by obtain ⟨_, _, _, e⟩ := La.rows b' h1; exact hlt b' _ e rfl c hc) (fun b' h1 c hc => by obtain ⟨_, _, _, e⟩ := Lb.rows b' h1; exact hlt b' _ e rfl c hc)
                apart La.sub Lb.sub hnt hF1 s1 s2 d Ba Bb
      · cases hm
    · cases hu
end

section
variable {P : Program} {o : Oper} {st : St} {R : Type} {r : R}

theorem callMut_sound {c : Call} {g : Operand} {f : FuncId} {caps : List Place} {k : St → Option R} (ho : o.op = .call c) (hc : c.callee = .value g) (hg : st.ev g = .v (.one (.fn f caps))) (hdst : dstOk st.n o.dst = true) :
    ∀ (l : List FX), (∀ fx, fx ∈ l → FxOK P f fx) → callMut st (evs st c.args.toList ++ caps.map fun p => .v (.one (.ptr p))) o.dst k l = some r → ∃ st', k st' = some r ∧ st'.n = st.n ∧ SeqOK P o st st'
  | [], _, h => by cases h
  | fx :: l, hl, h => by
    simp only [callMut] at h
    split at h
    · rename_i used hused
      obtain ⟨hnd, h⟩ := bif_some h
      have hnd := (nodupB_iff _).1 hnd
      split at h
      · rename_i ds hds
        cases hrun : fx.run ds with
        | none => rw [hrun] at h; cases h
        | some out =>
          rw [hrun] at h
          simp only [Option.bind_some] at h
          refine ⟨_, h, ?_, ?_⟩
          · show ({ st with loc := _ }.kill [] used : St).n = st.n
            rw [St.kill_eq]
          intro w0 S m H F a w hr next Q hn
          have hgv : ∃ vs : Array Value, a.eval g = .func (.func f) #[] vs ∧ All2 (plRel ⟨w.heap, S, m, H, F, st.loc⟩) caps vs.toList := by
            have := ev_rel hr g
            rw [hg] at this
            exact this
          obtain ⟨vs, eg, hcaps⟩ := hgv
          have hall : All2 (fvRel ⟨w.heap, S, m, H, F, st.loc⟩) (evs st c.args.toList ++ caps.map fun p => .v (.one (.ptr p))) (c.args.toList.map a.eval ++ vs.toList) :=
            (evs_rel hr c.args.toList).append (hcaps.map_left fun _ _ h => h)
          obtain ⟨hk, M⟩ := hr.killed used []
          have eloc : (st.kill used []).loc = (deadAt used 0 st.loc).map (Blk.kill used []) := by rw [St.kill_eq]
          rw [eloc] at M
          have hdr : ∀ b pin τ xs, st.loc[b]? = some (.row pin τ xs) → ∃ base cap, H b = .slice base xs.length cap := hr.hdr
          have hkblk := hk.blk
          have hkhdr := hk.hdr
          rw [eloc] at hkblk hkhdr
          obtain ⟨F0, L⟩ := usedPs_lent (Γ := ⟨w.heap, S, m, H, F, st.loc⟩) (Δ := ⟨w.heap, S, m, H, F, (deadAt used 0 st.loc).map (Blk.kill used [])⟩) hr.blk hr.disj hr.F_lt hdr rfl hkblk hkhdr fx.ps _ ds used _ hused hnd hds hall
            (hall.map_left fun _ _ h => h.move M hdr)
          have hrows : ∀ b, b ∈ used → ∃ pin τ xs, st.loc[b]? = some (.row pin τ xs) := L.rows
          have hsub : ∀ c, F0 c → rowsF F used c := L.sub
          have usedlt : ∀ b, b ∈ used → ∀ c, F b c → c < w.heap.size := fun b h1 c hc => by
            obtain ⟨_, _, _, e⟩ := hrows b h1; exact hr.F_lt b _ e rfl c hc
          have hS0 : ∀ c, S c → ¬ F0 c := fun c hc hf => by
            obtain ⟨b, h1, h2⟩ := hsub c hf
            obtain ⟨_, _, _, e⟩ := hrows b h1
            exact (hr.own b _ e rfl c h2).2 hc
          have hargs := L.arg (fun c => c < w.heap.size ∧ ¬ F0 c)
            (fun b k hb ha c hc => by
              replace hb : ((deadAt used 0 st.loc).map (Blk.kill used []))[b]? = some k := hb
              rw [kill_loc_get] at hb
              cases hl0 : st.loc[b]? with
              | none => rw [hl0] at hb; cases hb
              | some k0 =>
                rw [hl0] at hb
                cases hmem : memB used b
                · rw [hmem] at hb
                  simp only [Option.map_some, cond_false, Option.some.injEq] at hb
                  subst hb
                  rw [kill_alive] at ha
                  refine ⟨hr.F_lt b k0 hl0 ha c hc, fun hf => ?_⟩
                  obtain ⟨b', h1, h2⟩ := hsub c hf
                  obtain ⟨_, _, _, e⟩ := hrows b' h1
                  exact hr.disj b b' k0 _ hl0 e ha rfl (fun e => (memB_false _ _).1 hmem (e ▸ h1)) c hc h2
                · rw [hmem] at hb
                  simp only [Option.map_some, cond_true, Option.some.injEq] at hb
                  subst hb
                  cases ha)
            (fun c hc => ⟨hr.S_lt c hc, hS0 c hc⟩)
          have hland := hl fx (by simp) w _ ds out F0 (fun c hc => by obtain ⟨b, h1, h2⟩ := hsub c hc; exact usedlt b h1 c h2) hargs hrun
          unfold Oper.wp execOp
          simp only [ho, resolve, hc, eg, Deferred.ofValue, Sem.run_bind, Sem.run_pure, Result.andThen_ok, invoke]
          have eargs : #[] ++ c.args.map a.eval ++ vs = (c.args.toList.map a.eval ++ vs.toList).toArray := by
            apply Array.ext'
            simp
          rw [eargs]
          refine hland o a next Q ?_
          rintro v w' ⟨hsz, hheap, hos, htape, hout, Fr, F1, hres, hargs', hFr, hF1, hdj⟩
          obtain ⟨Fn, B⟩ := L.back w'.heap _ F0 out.2 F1 st.loc ⟨fun c hc => hheap c (hr.S_lt c hc) (hS0 c hc), fun c h1 h2 => hheap c h1 h2⟩ (fun _ h => h) (fun _ _ h => h) (fun c hc => (hF1 c hc).1) hargs' (fun _ _ => rfl)
          have hbsub : ∀ b, b ∈ used → ∀ c, Fn b c → F1 c ∨ (F b c ∧ ¬ F0 c) := B.sub
          have hFnlt : ∀ b, b ∈ used → ∀ c, Fn b c → ((∃ b', b' ∈ used ∧ F b' c) ∨ w.heap.size ≤ c) ∧ c < w'.heap.size := fun b h1 c hc => by
            rcases hbsub b h1 c hc with h2 | h2
            · obtain ⟨h3, h4⟩ := hF1 c h2
              refine ⟨h3.imp (fun h3 => ?_) id, h4⟩
              obtain ⟨b', h5, h6⟩ := hsub c h3
              exact ⟨b', h5, h6⟩
            · exact ⟨.inl ⟨b, h1, h2.1⟩, Nat.lt_of_lt_of_le (usedlt b h1 c h2.1) hsz⟩
          have hupd := Rel.upds (w' := w') (F' := fun b => bif memB used b then Fn b else F b) hr (used := used) (loc' := backPs fx.ps out.2 (evs st c.args.toList ++ caps.map fun p => .v (.one (.ptr p))) st.loc)
            (fun b hb => by rw [(memB_false _ _).2 hb]; rfl) (fun b hb => B.other b hb)
            (fun b hb => by
              obtain ⟨pin, τ, xs, xs', e1, e2, e3, _⟩ := B.row b hb
              exact .inr ⟨pin, τ, xs, xs', e1, e2, e3⟩)
            hsz (fun c h1 h2 => hheap c h1 fun hf => by obtain ⟨b, h3, h4⟩ := hsub c hf; exact h2 b h3 h4) hos htape hout
            (fun b hb c hc => by rw [(memB_iff _ _).2 hb] at hc; exact hFnlt b hb c hc)
            (fun b b' hb hb' hne c hc hc' => by rw [(memB_iff _ _).2 hb] at hc; rw [(memB_iff _ _).2 hb'] at hc'; exact B.disj b b' hb hb' hne c hc hc')
            (fun b hb k hk => by
              obtain ⟨pin, τ, xs, xs', e1, e2, e3, e4⟩ := B.row b hb
              rw [e2] at hk
              cases hk
              obtain ⟨_, base, cap, eH, hbase⟩ := hr.blk b _ e1
              refine ⟨?_, base, cap, by rw [e3]; exact eH, hbase⟩
              show Own w'.heap S (.slice τ) xs' [H b] (bif memB used b then Fn b else F b)
              rw [(memB_iff _ _).2 hb]
              exact e4)
          -- the results
          generalize hargsE : (evs st c.args.toList ++ caps.map fun p => FV.v (V1.one (C.ptr p))) = args at hupd hn ⊢
          have hst1n : ({ st with loc := backPs fx.ps out.2 args st.loc }.kill [] used : St).n = st.n := by rw [St.kill_eq]
          have hst1len : st.loc.length = ({ st with loc := backPs fx.ps out.2 args st.loc }.kill [] used : St).loc.length := by
            rw [St.kill_eq, deadAt_nil, List.length_map]
            exact (backPs_length _ _ _ _).symm
          have hold : ∀ b k, ({ st with loc := backPs fx.ps out.2 args st.loc }.kill [] used : St).loc[b]? = some k → k.alive = true → b ∉ used → ∃ k0, st.loc[b]? = some k0 ∧ k0.alive = true := by
            intro b k hk ha hb
            rw [St.kill_eq, deadAt_nil, List.getElem?_map] at hk
            have := B.other b hb
            rw [hargsE] at this
            replace this : (backPs fx.ps out.2 args st.loc)[b]? = st.loc[b]? := this
            replace hk : ((backPs fx.ps out.2 args st.loc)[b]?).map _ = _ := hk
            rw [this] at hk
            cases hl : st.loc[b]? with
            | none => rw [hl] at hk; cases hk
            | some k0 =>
              rw [hl] at hk
              cases hk
              rw [kill_alive] at ha
              exact ⟨k0, rfl, ha⟩
          generalize ({ st with loc := backPs fx.ps out.2 args st.loc }.kill [] used : St) = st1 at hupd hst1n hst1len hold hn ⊢
          obtain ⟨m', H', F', g1, g2, g3, g4, g5⟩ := impR_gen (S := S) (m := m) (H := H) (F := fun b => bif memB used b then Fn b else F b) (loc := st1.loc) st.loc.length hst1len hres
          refine hn _ w' m' H' F' (hupd.more (by rw [hst1n]; exact hdst) g1 g2 (fun j k hj => ⟨(g3 j k hj).1, fun c hc => ?_⟩) g4 g5)
          have hc := (g3 j k hj).2 c hc
          have hnew := hFr c hc
          refine ⟨hnew.2, fun hs => ?_, fun b k' hbk ha hbc => ?_⟩
          · rcases hnew.1 with h1 | h1
            · exact hS0 c hs h1
            · have := hr.S_lt c hs; omega
          by_cases hbu : b ∈ used
          · rw [(memB_iff _ _).2 hbu] at hbc
            rcases hbsub b hbu c hbc with h1 | h1
            · exact hdj c hc h1
            · rcases hnew.1 with h2 | h2
              · exact h1.2 h2
              · have := usedlt b hbu c h1.1; omega
          · rw [(memB_false _ _).2 hbu] at hbc
            obtain ⟨k0, h1, h2⟩ := hold b k' hbk ha hbu
            rcases hnew.1 with h3 | h3
            · obtain ⟨b', h4, h5⟩ := hsub c h3
              obtain ⟨_, _, _, e⟩ := hrows b' h4
              exact hr.disj b b' k0 _ h1 e h2 rfl (fun e => hbu (e ▸ h4)) c hbc h5
            · have := hr.F_lt b k0 h1 h2 c hbc; omega
      · exact callMut_sound ho hc hg hdst l (fun fx hfx => hl fx (by simp [hfx])) h
    · exact callMut_sound ho hc hg hdst l (fun fx hfx => hl fx (by simp [hfx])) h
end
end Go.Fw
/- Operations in the order of the text, and whole regions. No condition. -/
namespace Go.Fw

theorem nodupB_cons {x : Nat} {l : List Nat} (h : nodupB (x :: l) = true) : x ∉ l ∧ nodupB l = true := by
  simp only [nodupB, Bool.and_eq_true, Bool.not_eq_true'] at h
  exact ⟨(memB_false _ _).1 h.1, h.2⟩

theorem ownD_rows {loc : List Blk} : ∀ {τ : Ty} {cs : List C} {x : τ.D} {l : List Nat}, ownD loc τ cs = some (x, l) → ∀ d, d ∈ l → ∃ τ xs, loc[d]? = some (.row false τ xs) := by
  intro τ
  induction τ with
  | int k => intro cs x l h d hd; obtain ⟨_, rfl⟩ := withNil_some h; cases hd
  | bool => intro cs x l h d hd; obtain ⟨_, rfl⟩ := withNil_some h; cases hd
  | flt k => intro cs x l h d hd; obtain ⟨_, rfl⟩ := withNil_some h; cases hd
  | str => intro cs x l h d hd; obtain ⟨_, rfl⟩ := withNil_some h; cases hd
  | unit => intro cs x l h d hd; obtain ⟨_, rfl⟩ := withNil_some h; cases hd
  | rslice e _ => intro cs x l h d hd; obtain ⟨_, rfl⟩ := withNil_some h; cases hd
  | ref e _ => intro cs x l h d hd; obtain ⟨_, rfl⟩ := withNil_some h; cases hd
  | fn f => intro cs x l h d hd; obtain ⟨_, rfl⟩ := withNil_some h; cases hd
  | slice e _ =>
    intro cs x l h d hd
    simp only [ownD] at h
    unfold giveSl at h
    split at h
    · cases h; cases hd
    · obtain ⟨h1, rfl⟩ := giveRow_some h
      simp at hd
      subst hd
      exact ⟨_, _, h1⟩
    · cases h
  | pair a b iha ihb =>
    intro cs x l h d hd
    simp only [ownD] at h
    split at h
    · rename_i y l1 z l2 hy hz
      cases h
      rcases List.mem_append.1 hd with hd | hd
      · exact iha hy d hd
      · exact ihb hz d hd
    · cases h

section
variable {P : Program} {E : Tabs} {R : Type} {res : R} {o : Oper} {st : St}

theorem kill_n (st : St) (ds ns : List Nat) : (st.kill ds ns).n = st.n := by rw [St.kill_eq]
theorem kill_n' (st : St) (ds ns : List Nat) {b : Nat} {k : Blk} {dst : Option Tmp} {v : FV} {bs : List Blk} : (((st.setBlk b k).kill ds ns).bind dst v bs).n = st.n := by
  show ((st.setBlk b k).kill ds ns).n = st.n
  rw [kill_n]; rfl
theorem St.kill_nn (st : St) : st.kill [] [] = st := rfl

theorem ok_store (ok : EnvOK P E) {t : TypeId} {pa x : Operand} {p : Place} {f : St → Option R} (ho : o.op = .store t pa x) (hp : st.ev pa = .v (.one (.ptr p))) (hd : dstOk st.n o.dst = true)
    (h : effStore E t p (st.ev x) st (fun st' => f (st'.bind o.dst .undef [])) = some res) : ∃ st', f st' = some res ∧ st'.n = st.n ∧ SeqOK P o st st' := by
  unfold effStore at h
  split at h
  · rename_i ti vs ht hx
    have h0 := bif_some h
    clear h
    obtain ⟨hlen, h⟩ := h0
    have hlen := Nat.eq_of_beq_eq_true hlen
    have tok := ok.tab t ti ht
    cases p with
    | view τ x off => cases h
    | box b off =>
      simp only [] at h
      split at h
      · rename_i cs hl
        obtain ⟨hle, h⟩ := bif_some h
        exact ⟨_, h, rfl, ok_store_box tok ho hp hx hlen hl (Nat.le_of_ble_eq_true hle) hd⟩
      · cases h
    | elem b i off =>
      simp only [] at h
      split at h
      · rename_i pin τ xs hl
        have flat : ∀ (x' : τ.D), setAt τ (xs.getD i τ.zero) off vs = some x' → ∀ (Γ : Ctx) (us : List Value) (cs : List Value) (G : Nat → Prop), Γ.loc = st.loc → (∀ b k, Γ.loc[b]? = some k → blkRel Γ b k) →
            (∀ b b' k k', Γ.loc[b]? = some k → Γ.loc[b']? = some k' → k.alive = true → k'.alive = true → b ≠ b' → ∀ c, Γ.F b c → ¬ Γ.F b' c) → All2 (cRel Γ) vs us → Own Γ.h Γ.S τ (xs.getD i τ.zero) cs G →
            off + us.length ≤ τ.size ∧ Own Γ.h Γ.S τ x' (patch cs off us) (fun c => G c ∨ rowsF Γ.F [] c) := by
          intro x' hs Γ us cs G _ _ _ ha ho
          obtain ⟨h1, h2⟩ := setAt_own τ _ off vs x' cs G hs ha ho
          exact ⟨h2, Own.mono (fun _ h => h) (fun _ _ => rfl) _ _ _ _ _ (fun c hc => .inl hc) (fun _ _ => rfl) h1⟩
        cases hsl : hasSl τ
        · rw [hsl] at h
          simp only [cond_false] at h
          split at h
          · rename_i x' hs
            exact ⟨_, h, rfl, ok_store_elem (ms := []) (ns := []) tok ho hp hx hlen hl hd (by simp) (fun _ => hsl) (fun d hd => by cases hd) (flat x' hs)⟩
          · cases h
        · rw [hsl] at h
          simp only [cond_true] at h
          cases hw : Nat.beq off 0 && Nat.beq ti.size τ.size
          · rw [hw] at h
            simp only [cond_false] at h
            split at h
            · rename_i x' hs
              exact ⟨_, h, kill_n' _ _ _, ok_store_elem (ms := []) (ns := [b]) tok ho hp hx hlen hl hd (by simp) (fun hn => absurd (by simp) hn) (fun d hd => by cases hd) (flat x' hs)⟩
            · cases h
          · rw [hw] at h
            simp only [cond_true] at h
            rw [Bool.and_eq_true] at hw
            have h0 : off = 0 := Nat.eq_of_beq_eq_true hw.1
            have h1 : ti.size = τ.size := Nat.eq_of_beq_eq_true hw.2
            subst h0
            split at h
            · rename_i x' ms hs
              obtain ⟨hn, h⟩ := bif_some h
              obtain ⟨hb, hn⟩ := nodupB_cons hn
              have hnd := (nodupB_iff ms).1 hn
              refine ⟨_, h, kill_n' _ _ _, ok_store_elem (ms := ms) (ns := [b]) tok ho hp hx hlen hl hd hb (fun hn => absurd (by simp) hn) (fun d hdm => ?_) ?_⟩
              · exact ownD_rows hs d hdm
              · intro Γ us cs G hΓ hblk hdj ha hown
                rw [← hΓ] at hs
                have hl1 := ha.length
                have hl2 := Own.length _ _ _ _ hown
                refine ⟨by omega, ?_⟩
                have e : patch cs 0 us = us := by
                  unfold patch
                  rw [List.take_zero, List.nil_append, List.drop_eq_nil_of_le (by omega), List.append_nil]
                rw [e]
                exact Own.mono (fun _ h => h) (fun _ _ => rfl) _ _ _ _ _ (fun c hc => .inr hc) (fun _ _ => rfl) (ownD_rel hblk hdj _ _ _ _ _ hs hnd ha).1
            · cases h
      · cases h
  · cases h

/-- A comparison with nil: what the machine answers. -/
theorem nilQ_rel {op : BinOp} {x y : Operand} {neg : Bool} {n : Nat} (h : nilQ op (st.ev x) y st.loc = some (neg, n)) {w0 : W0} {S : Nat → Prop} {m : Nat → Nat} {H : Nat → Value} {F : Nat → Nat → Prop} {a : Act} {w : World} (hr : Rel w0 S m H F st a w) :
    ∃ base cap, a.eval x = .slice base n cap ∧ y = .const (.slice none 0 0) ∧ (op = .eql ∧ neg = false ∨ op = .neq ∧ neg = true) ∧ (base = none → n = 0) := by
  have key : ∀ s, st.ev x = .v (.one (.sl s)) → s.len st.loc = some n → ∃ base cap, a.eval x = .slice base n cap ∧ (base = none → n = 0) := by
    intro s hx hl
    have h1 : slRel ⟨w.heap, S, m, H, F, st.loc⟩ s (a.eval x) := by
      have := ev_rel hr x
      rw [hx] at this
      exact this
    cases s with
    | nil => obtain ⟨b, e⟩ := h1; cases hl; exact ⟨b, 0, e, fun _ => rfl⟩
    | row b =>
      obtain ⟨e, pin, τ, xs, hlo⟩ := h1
      replace hlo : st.loc[b]? = some (.row pin τ xs) := hlo
      simp only [Sl.len, hlo, Option.some.injEq] at hl
      obtain ⟨⟨_, base, cap, e1, h2, _⟩, base', cap', eH, h3⟩ := hr.blk b _ hlo
      subst hl
      refine ⟨base', cap', e.trans eH, fun hn => ?_⟩
      have e2 : Value.slice base' xs.length cap' = .slice base xs.length cap := eH.symm.trans (by simpa using e1)
      cases e2
      rcases h3 with h3 | h3
      · omega
      · rw [hn] at h3; cases h3
    | sub b off k =>
      obtain ⟨_, _, _, _, _, base, cap, e, h1, h2, h3⟩ := h1
      cases hl
      refine ⟨base, cap, e, fun hn => ?_⟩
      rcases h3 with h3 | h3
      · exact h3
      · rw [hn] at h3; cases h3
    | view τ xs =>
      obtain ⟨hm, base, cap, e, h1, h2, h3⟩ := h1
      cases hl
      refine ⟨base, cap, by simpa using e, fun hn => ?_⟩
      rcases h3 with h3 | ⟨_, _, _, _, _, h3, _⟩
      · rw [h3]; rfl
      · rw [hn] at h3; cases h3
    | nest b i off τ xs =>
      obtain ⟨⟨hm, base, cap, e, h1, h2, h3⟩, _⟩ := h1
      cases hl
      refine ⟨base, cap, by simpa using e, fun hn => ?_⟩
      rcases h3 with h3 | ⟨_, _, _, _, _, h3, _⟩
      · rw [h3]; rfl
      · rw [hn] at h3; cases h3
  unfold nilQ at h
  split at h
  · rename_i s hx
    split at h
    · rename_i k hl
      cases h
      obtain ⟨base, cap, e, hb⟩ := key s hx hl
      exact ⟨base, cap, e, rfl, .inl ⟨rfl, rfl⟩, hb⟩
    · cases h
  · rename_i s hx
    split at h
    · rename_i k hl
      cases h
      obtain ⟨base, cap, e, hb⟩ := key s hx hl
      exact ⟨base, cap, e, rfl, .inr ⟨rfl, rfl⟩, hb⟩
    · cases h
  · cases h

theorem opK_sound (ok : EnvOK P E) {f : St → Option R} (h : opK E o st f = some res) : ∀ w0 S m H F a w, Rel w0 S m H F st a w → ∀ (K : Act → World → Prop) (Q : Exit → Act → World → Prop),
    (∀ st', f st' = some res → st'.n = st.n → ∀ a' w' m' H' F', Rel w0 S m' H' F' st' a' w' → K a' w') → o.wp P a w K Q := by
  have fin : (∃ st', f st' = some res ∧ st'.n = st.n ∧ SeqOK P o st st') → ∀ w0 S m H F a w, Rel w0 S m H F st a w → ∀ (K : Act → World → Prop) (Q : Exit → Act → World → Prop),
    (∀ st', f st' = some res → st'.n = st.n → ∀ a' w' m' H' F', Rel w0 S m' H' F' st' a' w' → K a' w') → o.wp P a w K Q := by
    rintro ⟨st', h1, h2, h3⟩ w0 S m H F a w hr K Q hK
    exact h3 w0 S m H F a w hr K Q (hK st' h1 h2)
  unfold opK at h
  obtain ⟨hd, h⟩ := bif_some h
  have pure : (pureK E o st fun v bs => f (st.bind o.dst v bs)) = some res → ∃ st', f st' = some res ∧ st'.n = st.n ∧ SeqOK P o st st' := fun h => by
    obtain ⟨v, bs, h1, h2⟩ := pureK_sound ok h
    exact ⟨_, h1, rfl, h2.seq hd⟩
  split at h
  · rename_i t a x ho
    split at h
    · rename_i p hp
      exact fin (ok_store ok ho hp hd h)
    · cases h
  · rename_i t len parts ho
    cases hds : deepSl E t
    · rw [hds] at h; exact fin (pure h)
    · rw [hds] at h; exact fin (ok_build_deep ok.tab ho hd h)
  · rename_i op t x y pos ho
    split at h
    · rename_i neg n e size bytes zero ty hq ht
      intro w0 S m H F a w hr K Q hK
      obtain ⟨base, cap, ex, rfl, hop, hb⟩ := nilQ_rel hq hr
      obtain ⟨d, hdt, hud⟩ := (ok.tab t _ ht).und
      cases hud
      have go : ∀ b : Bool, (execOp a.eval o).run P w = .ok (.value (.bool b)) w → f (st.bind o.dst (.v (.one (.bool b))) []) = some res → o.wp P a w K Q := by
        intro b hrun hf
        unfold Oper.wp
        rw [hrun, Oper.upon_value]
        exact hK _ hf rfl _ w m H F (hr.bind (Ext.refl w) hd ⟨fun _ _ => ⟨rfl, rfl, rfl⟩, by rw [List.append_nil]; rfl, fun j k hj => by simp at hj, fun j j' _ hj => by simp at hj, fun j τ xs hj => by simp at hj⟩)
      have hg : ∀ u v, (eqGuard op t u v (.slice base n cap) (.slice none 0 0)).run P w = .ok () w := fun u v => by
        unfold eqGuard
        rcases hop with ⟨rfl, _⟩ | ⟨rfl, _⟩ <;> simp
      have hrun : ∃ b, (execOp a.eval o).run P w = .ok (.value (.bool b)) w ∧ (b = (!neg) ∨ b = neg) ∧ (n ≠ 0 → b = neg) := by
        have hb2 : n ≠ 0 → base.isNone = false := fun hn => by
          cases base with
          | none => exact absurd (hb rfl) hn
          | some b => rfl
        have hev : a.eval (.const (.slice none 0 0)) = .slice none 0 0 := rfl
        rcases hop with ⟨rfl, rfl⟩ | ⟨rfl, rfl⟩
        · have hq := Lib.run_eql_slice_nil (P := P) w t e base n cap 0 0 hdt
          refine ⟨base.isNone, ?_, by cases base.isNone <;> simp, hb2⟩
          unfold execOp
          rw [ho]
          simp only [ex, hev, Sem.run_bind, hg, Result.andThen_ok, hq, Sem.run_pure]
        · have hq : (binOp .neq t (.slice base n cap) (.slice none 0 0)).run P w = .ok (.bool (!base.isNone)) w := Go.run_neq_slice_nil w t e base n cap hdt
          refine ⟨!base.isNone, ?_, by cases base.isNone <;> simp, fun hn => by rw [hb2 hn]; rfl⟩
          unfold execOp
          rw [ho]
          simp only [ex, hev, Sem.run_bind, hg, Result.andThen_ok, hq, Sem.run_pure]
      obtain ⟨b, h1, h2, h3⟩ := hrun
      cases hn : Nat.beq n 0
      · rw [hn, cond_false] at h
        have := h3 (fun e => by rw [e] at hn; cases hn)
        subst this
        exact go _ h1 h
      · rw [hn, cond_true] at h
        obtain ⟨h4, h5⟩ := bothSame_some h
        rcases h2 with e | e
        · subst e; exact go _ h1 h4
        · subst e; exact go _ h1 h5
    · exact fin (pure h)
  · rename_i c ho
    split at h
    · rename_i hc
      split at h
      · rename_i s x t u hargs hty
        have h0 := bif_some h
        clear h
        obtain ⟨hb, h⟩ := h0
        have e := Nat.eq_of_beq_eq_true hb
        subst e
        exact fin (ok_append ok.tab ho hc hargs hty hd h)
      · cases h
    · rename_i g hc
      split at h
      · rename_i f' caps hg
        split at h
        · exact fin (pure h)
        · rename_i fx r hfx
          exact fin (callMut_sound ho hc hg hd _ (fun fx' hm => ok.mutf f' fx' (by rw [hfx]; exact hm)) h)
      · cases h
    · exact fin (pure h)
  · exact fin (pure h)

/-! ### guards -/
theorem Rel.learn {w0 : W0} {w : World} {S : Nat → Prop} {m : Nat → Nat} {H : Nat → Value} {F : Nat → Nat → Prop} {a : Act} (h : Rel w0 S m H F st a w) {t : Tmp} {b : Bool} (hl : look st.fr t = .v (.one (.bool b))) : Rel w0 S m H F (st.learn (.tmp t) b) a w := by
  refine { h with fr := fun u => ?_ }
  show fvRel _ (look ((t, .v (.one (.bool b))) :: st.fr) u) _
  simp only [look]
  cases hb : Nat.beq t u
  · exact h.fr u
  · have := Nat.eq_of_beq_eq_true hb
    subst this
    have h1 := h.fr t
    rw [hl] at h1
    exact h1

/-- One operation of the text's order, with its guard. -/
theorem runSeq_step (ok : EnvOK P E) {all r : List Oper} {f : St → Option R} (h : runSeq E all (o :: r) st f = some res) :
    ∀ w0 S m H F a w, Rel w0 S m H F st a w → ∀ (K : Act → World → Prop) (Q : Exit → Act → World → Prop),
      (∀ st', runSeq E all r st' f = some res → st'.n = st.n → ∀ a' w' m' H' F', Rel w0 S m' H' F' st' a' w' → K a' w') →
      if Region.wanted o (yielded all.toArray a.tmps) then o.wp P a w K Q ∨ (o.asks P a w ∧ LetsOut Q) else K (a.put o.dst undef) w := by
  simp only [runSeq] at h
  split at h
  · rename_i hg
    intro w0 S m H F a w hr K Q hK
    have hw : Region.wanted o (yielded all.toArray a.tmps) = true := by unfold Region.wanted; rw [hg]
    rw [if_pos hw]
    exact .inl (opK_sound ok h w0 S m H F a w hr K Q hK)
  · rename_i j want hg
    split at h
    · rename_i t ht
      have htd : dstOf all j = some t := by
        unfold guardT at ht
        unfold dstOf
        split at ht
        · rename_i o' ho'; rw [ho']; exact ht
        · cases ht
      split at h
      · rename_i b hb
        have yl : ∀ w0 S m H F a w, Rel w0 S m H F st a w → yielded all.toArray a.tmps j = some b := fun w0 S m H F a w hr => by
          have := hr.fr t
          rw [hb] at this
          exact yielded_of htd (bool_val this)
        have run : b = want → opK E o (st.learn (.tmp t) b) (fun st' => runSeq E all r st' f) = some res → ∀ w0 S m H F a w, Rel w0 S m H F st a w → ∀ (K : Act → World → Prop) (Q : Exit → Act → World → Prop),
            (∀ st', runSeq E all r st' f = some res → st'.n = st.n → ∀ a' w' m' H' F', Rel w0 S m' H' F' st' a' w' → K a' w') →
            if Region.wanted o (yielded all.toArray a.tmps) then o.wp P a w K Q ∨ (o.asks P a w ∧ LetsOut Q) else K (a.put o.dst undef) w := by
          intro e h w0 S m H F a w hr K Q hK
          have hw : Region.wanted o (yielded all.toArray a.tmps) = true := by
            unfold Region.wanted; rw [hg]; simp only [yl w0 S m H F a w hr, e]; simp
          rw [if_pos hw]
          exact .inl (opK_sound ok h w0 S m H F a w (hr.learn hb) K Q hK)
        have skip : b ≠ want → dstOk st.n o.dst = true → runSeq E all r ((st.learn (.tmp t) b).bind o.dst (.tup []) []) f = some res → ∀ w0 S m H F a w, Rel w0 S m H F st a w → ∀ (K : Act → World → Prop) (Q : Exit → Act → World → Prop),
            (∀ st', runSeq E all r st' f = some res → st'.n = st.n → ∀ a' w' m' H' F', Rel w0 S m' H' F' st' a' w' → K a' w') →
            if Region.wanted o (yielded all.toArray a.tmps) then o.wp P a w K Q ∨ (o.asks P a w ∧ LetsOut Q) else K (a.put o.dst undef) w := by
          intro e hd h w0 S m H F a w hr K Q hK
          have hw : Region.wanted o (yielded all.toArray a.tmps) = false := by
            unfold Region.wanted; rw [hg]; simp only [yl w0 S m H F a w hr]; cases b <;> cases want <;> simp_all
          rw [if_neg (by rw [hw]; simp)]
          exact hK _ h rfl _ _ _ _ _ ((hr.learn hb).bindGone (st := st.learn (.tmp t) b) hd)
        split at h
        · cases b
          · simp only [cond_false] at h
            obtain ⟨hd, h⟩ := bif_some h
            exact skip (by simp) hd h
          · exact run rfl h
        · cases b
          · exact run rfl h
          · simp only [cond_true] at h
            obtain ⟨hd, h⟩ := bif_some h
            exact skip (by simp) hd h
      · rename_i hb
        obtain ⟨hd, h⟩ := bif_some h
        intro w0 S m H F a w hr K Q hK
        have hw : Region.wanted o (yielded all.toArray a.tmps) = false := by
          unfold Region.wanted
          rw [hg]
          have h1 := hr.fr t
          rw [hb] at h1
          exact not_wanted htd (.inr rfl) h1
        rw [if_neg (by rw [hw]; simp)]
        exact hK _ h rfl _ _ _ _ _ (hr.bindGone hd)
      · cases h
    · cases h

section regions
variable {w0 : W0} {S : Nat → Prop} {Q : Exit → Act → World → Prop}

theorem runSeq_list (ok : EnvOK P E) {all : List Oper} {f : St → Option R} {n : Nat} (hQ : ∀ st' a w m H F, st'.n = n → f st' = some res → Rel w0 S m H F st' a w → Q .normal a w) :
    ∀ (r : List Oper) (st : St) (a : Act) (w : World) (m : Nat → Nat) (H : Nat → Value) (F : Nat → Nat → Prop), st.n = n → runSeq E all r st f = some res → Rel w0 S m H F st a w → wpList P all.toArray Q r a w
  | [], st, a, w, m, H, F, hn, h, hr => hQ st a w m H F hn h hr
  | o :: r, st, a, w, m, H, F, hn, h, hr => by
    exact runSeq_step ok h w0 S m H F a w hr _ Q fun st' h1 hn' a' w' m' H' F' hr' => runSeq_list ok hQ r st' a' w' m' H' F' (hn'.trans hn) h1 hr'

theorem rest_any (ok : EnvOK P E) {ops : List Oper} {bef : List Nat} (B : Bef ops bef) {p : Nat} (hrest : ∀ i, p ≤ i → i < ops.length → ∀ j, p ≤ j → j < i → visB bef j i = true) {f : St → Option R} {n : Nat}
    (hQ : ∀ st' a w m H F, st'.n = n → f st' = some res → Rel w0 S m H F st' a w → Q .normal a w) :
    ∀ (r : List Oper) (q : Nat) (listed : Array Bool) (st : St) (a : Act) (w : World) (m : Nat → Nat) (H : Nat → Value) (F : Nat → Nat → Prop), ops.drop q = r → p ≤ q → q ≤ ops.length → Upto ops.length q listed → st.n = n → runSeq E ops r st f = some res → Rel w0 S m H F st a w →
      wpAny P .any ops.toArray Q r.length listed a w
  | [], q, listed, st, a, w, m, H, F, hd, hp, hq, hu, hn, h, hr => by
    have hk : ops.length ≤ q := List.drop_eq_nil_iff.1 hd
    refine ⟨?_, hQ st a w m H F hn h hr⟩
    refine List.eq_nil_iff_forall_not_mem.2 fun i hi => ?_
    obtain ⟨h1, o, ho, _⟩ := mem_ready.1 hi
    have hilt : i < ops.length := by
      have := (Array.getElem?_eq_some_iff.1 ho).1
      simpa using this
    have := hu.lst i hilt
    rw [getD_both h1] at this
    simp at this
    omega
  | o :: r, q, listed, st, a, w, m, H, F, hd, hp, hq, hu, hn, h, hr => by
    have ho : ops[q]? = some o := by
      have : (ops.drop q)[0]? = some o := by rw [hd]; rfl
      rwa [List.getElem?_drop, Nat.add_zero] at this
    have hqp : q < ops.length := (List.getElem?_eq_some_iff.1 ho).1
    have hd' : ops.drop (q + 1) = r := by rw [← List.drop_drop, hd]; rfl
    have hun : ∀ i, i < ops.length → q ≤ i → listed.getD i false = false := fun i hi hge => by rw [hu.lst i hi]; simp; omega
    have hin : ∀ i, i < q → listed.getD i false = true := fun i hi => by rw [hu.lst i (by omega)]; simp [hi]
    refine ⟨fun h0 => ?_, fun i hi => ?_⟩
    · exfalso
      have : q ∈ Region.ready .any ops.toArray listed := by
        refine mem_ready.2 ⟨getD_in (by rw [hu.size]; exact hqp) (hun q hqp (Nat.le_refl _)), o, by simpa using ho, fun e he hb => ?_⟩
        exact hin e.on (B.up q o ho e (by simpa using he) hb)
      rw [h0] at this
      cases this
    · obtain ⟨h1, o', ho', hall⟩ := mem_ready.1 hi
      have ho2 : ops[i]? = some o' := by simpa using ho'
      have hilt : i < ops.length := (List.getElem?_eq_some_iff.1 ho2).1
      have hqi : q ≤ i := by
        rcases Nat.lt_or_ge i q with h3 | h3
        · have := hin i h3; rw [getD_both h1] at this; cases this
        · exact h3
      have hiq : i = q := by
        rcases Nat.lt_or_ge q i with h3 | h3
        · exfalso
          have := B.ready (X := fun j => listed.getD j false = true) (fun k hk j hj => by
            rcases Nat.lt_or_ge k ops.length with h4 | h4
            · have hkq : k < q := by
                rcases Nat.lt_or_ge k q with h5 | h5
                · exact h5
                · rw [hun k h4 h5] at hk; cases hk
              exact hin j (by have := B.lt k j h4 hj; omega)
            · exfalso
              have : listed.getD k false = false := by simp [Array.getElem?_eq_none (show listed.size ≤ k by rw [hu.size]; exact h4)]
              rw [this] at hk; cases hk) ho2 (fun e he hb => hall e (by simpa using he) hb) q (hrest i (by omega) hilt q hp h3)
          simp only [hun q hqp (Nat.le_refl _)] at this
          cases this
        · omega
      subst hiq
      rw [ho] at ho2
      cases ho2
      unfold wpOp
      simp only [ho']
      refine runSeq_step ok h w0 S m H F a w hr _ Q fun st' h5 hn' a' w' m' H' F' hr' => ?_
      refine rest_any ok B hrest hQ r (i + 1) _ st' a' w' m' H' F' hd' (by omega) (by omega) ⟨by simp [hu.size], fun j hj => ?_⟩ (hn'.trans hn) h5 hr'
      by_cases e : j = i
      · subst e
        have : j < listed.size := by rw [hu.size]; exact hj
        simp [this]
      · rw [getD_set_ne false (Ne.symm e), hu.lst j hj]
        congr 1
        simp only [eq_iff_iff]
        omega

theorem Rel.drawn {m : Nat → Nat} {H : Nat → Value} {F : Nat → Nat → Prop} {a : Act} {w : World} (h : Rel w0 S m H F st a w) (n : Nat) : Rel w0 S m H F st a { w with drawn := n } :=
  ⟨h.size, h.defers, h.fr, h.blk, h.own, h.disj, h.stab, h.grow, h.os, h.tape, h.output, h.pin⟩

theorem dsts_spec : ∀ {l : List Oper} {i : Nat} {t : Tmp}, dstOf l i = some t → t ∈ dsts l
  | [], i, t, h => by simp [dstOf] at h
  | o :: r, 0, t, h => by
    simp [dstOf] at h
    simp [dsts, h]
  | o :: r, i + 1, t, h => by
    have := dsts_spec (l := r) (i := i) (t := t) (by simpa [dstOf] using h)
    simp only [dsts]
    split
    · exact .tail _ this
    · exact this

theorem dsts_dist : ∀ {l : List Oper} {i i' : Nat} {t : Tmp}, nodupB (dsts l) = true → dstOf l i = some t → dstOf l i' = some t → i = i'
  | [], i, i', t, _, h, _ => by simp [dstOf] at h
  | o :: r, 0, 0, t, _, _, _ => rfl
  | o :: r, 0, i' + 1, t, hn, h, h' => by
    exfalso
    simp [dstOf] at h
    have h2 := dsts_spec (l := r) (i := i') (t := t) (by simpa [dstOf] using h')
    simp only [dsts, h] at hn
    exact (nodupB_cons hn).1 h2
  | o :: r, i + 1, 0, t, hn, h, h' => by
    exfalso
    simp [dstOf] at h'
    have h2 := dsts_spec (l := r) (i := i) (t := t) (by simpa [dstOf] using h)
    simp only [dsts, h'] at hn
    exact (nodupB_cons hn).1 h2
  | o :: r, i + 1, i' + 1, t, hn, h, h' => by
    have hn' : nodupB (dsts r) = true := by
      simp only [dsts] at hn
      split at hn
      · exact (nodupB_cons hn).2
      · exact hn
    exact congrArg (· + 1) (dsts_dist (l := r) (i := i) (i' := i') (t := t) hn' (by simpa [dstOf] using h) (by simpa [dstOf] using h'))

theorem anyFrom_F {f : Nat → Bool} : ∀ {n i : Nat}, anyFrom f i n = false → ∀ j, i ≤ j → j < i + n → f j = false
  | 0, i, _, j, h1, h2 => by omega
  | n + 1, i, h, j, h1, h2 => by
    simp only [anyFrom, Bool.or_eq_false_iff] at h
    by_cases e : j = i
    · rw [e]; exact h.1
    · exact anyFrom_F h.2 j (by omega) (by omega)
theorem restOk2_spec {bef : List Nat} {p n : Nat} (h : restOk2 bef p n = true) : ∀ i, p ≤ i → i < n → ∀ j, p ≤ j → j < i → visB bef j i = true := by
  intro i h1 h2 j h3 h4
  unfold restOk2 at h
  have := anyFrom_F (by simpa using h) i h1 (by omega)
  have := anyFrom_F this j h3 (by omega)
  simpa using this
theorem kB_F {bef : List Nat} {p n k : Nat} (h : kB bef p n k = false) : ∀ i, p ≤ i → i < n → visB bef k i = true := by
  intro i h1 h2
  have := anyFrom_F h i h1 (by omega)
  simpa using this
theorem freeJ_spec {ops : Array Oper} {ok : Oper} {k : Nat} {listed : Nat → Bool} : ∀ {l : List Oper} {j0 : Nat}, freeJ ops ok k listed j0 l = true → ∀ j oj, l[j]? = some oj → j0 + j ≠ k → listed (j0 + j) = false → (∀ e ∈ oj.after, Region.binds .any e = true → e.on ≠ k) → ok.apart ops oj = true
  | [], j0, _, j, oj, h, _, _, _ => by simp at h
  | x :: r, j0, h, j, oj, hj, hne, hl, hno => by
    simp only [freeJ, Bool.and_eq_true, Bool.or_eq_true] at h
    cases j with
    | zero =>
      simp at hj
      subst hj
      rcases h.1 with ((h1 | h1) | h1) | h1
      · exact absurd (Nat.eq_of_beq_eq_true h1) hne
      · rw [Nat.add_zero] at hl; rw [hl] at h1; cases h1
      · obtain ⟨e, he, hb⟩ := List.any_eq_true.1 h1
        simp only [Bool.and_eq_true] at hb
        exact absurd (Nat.eq_of_beq_eq_true hb.2) (hno e (by simpa using he) hb.1)
      · exact h1
    | succ j =>
      exact freeJ_spec h.2 j oj (by simpa using hj) (by omega) (by rw [show j0 + 1 + j = j0 + (j + 1) by omega]; exact hl) hno
theorem pendOk_spec {bef : List Nat} {ops : List Oper} {p : Nat} : ∀ {l : List Oper} {k0 : Nat}, pendOk bef ops p k0 l = true → ∀ k o, l[k]? = some o → kB bef p ops.length (k0 + k) = true →
    tmpOp o.op = true ∧ o.guard = none ∧ freeJ ops.toArray o (k0 + k) (fun j => Nat.blt j p && (!(kB bef p ops.length j) || Nat.blt j (k0 + k))) 0 ops = true
  | [], k0, _, k, o, h, _ => by simp at h
  | x :: r, k0, h, k, o, hk, hb => by
    simp only [pendOk, Bool.and_eq_true, Bool.or_eq_true, Bool.not_eq_true'] at h
    cases k with
    | zero =>
      simp at hk
      subst hk
      rw [Nat.add_zero] at hb ⊢
      rcases h.1 with h1 | ⟨⟨h1, h2⟩, h3⟩
      · rw [hb] at h1; cases h1
      · refine ⟨h1, by simpa using h2, ?_⟩
        exact h3
    | succ k =>
      have := pendOk_spec h.2 k o (by simpa using hk) (by rw [show k0 + 1 + k = k0 + (k + 1) by omega]; exact hb)
      rwa [show k0 + 1 + k = k0 + (k + 1) by omega] at this

theorem preLen_le (E : Tabs) : ∀ ops : List Oper, preLen E ops ≤ ops.length
  | [] => Nat.le_refl _
  | o :: r => by
    have ih := preLen_le E r
    have key : ∀ b : Bool, (bif b then 0 else preLen E r + 1) ≤ r.length + 1 := fun b => by cases b <;> simp [ih]
    exact key _

/-- **A region.** -/
theorem regionK_sound (ok : EnvOK P E) {ops : List Oper} {draw : Bool} {f : St → Option R} {id : Nat} (h : regionK E ops draw st f = some res) {m : Nat → Nat} {H : Nat → Value} {F : Nat → Nat → Prop} {a : Act} {w : World} (hr : Rel w0 S m H F st a w)
    (hQ : ∀ st' a w m H F, st'.n = st.n → f st' = some res → Rel w0 S m H F st' a w → Q .normal a w) : (Code.region id ops.toArray draw).wp P Q a w := by
  cases draw with
  | false => exact wp_region_lit (runSeq_list ok hQ ops st a w m H F rfl h hr)
  | true =>
    simp only [regionK] at h
    obtain ⟨bef, hb⟩ := befs_eq (α := Option R) ops []
    rw [hb, force_eq] at h
    obtain ⟨hc, h⟩ := bif_some h
    simp only [Bool.and_eq_true] at hc
    obtain ⟨⟨⟨⟨⟨c1, c2⟩, c3⟩, c4⟩, c5⟩, c6⟩ := hc
    have B := Bef.of c1
    generalize hp : preLen E ops = p at *
    have hpl : p ≤ ops.length := hp ▸ preLen_le E ops
    have htl : (ops.take p).length = p := by simp; omega
    have hpt : ∀ k, k < (ops.take p).length → ∀ g, visB bef g k = true → g < k := fun k hk g hv => B.lt k g (by omega) hv
    obtain ⟨vs, bs, hsteps, hf⟩ := runPre_spec ok hpt (ops.take p) 0 (fun _ => .undef) (fun _ => []) rfl (Nat.zero_le _) (fun j hj => by omega) h
    rw [htl] at hsteps hf
    have hsz : (Array.replicate ops.toArray.size false).size = ops.length := by simp
    have hf0 : ∀ j, (Array.replicate ops.toArray.size false).getD j false = false := fun j => getD_replicate_false _ j
    have hlen : ops.toArray.size = ops.length := by simp
    -- what panics is not asked for
    let Q' : Exit → Act → World → Prop := fun e a w => match e with
      | .panic _ => False
      | e => Q e a w
    refine Code.wp_mono (Q := Q') (fun e a w hq => by cases e <;> first | exact hq | exact hq.elim) ?_
    refine wp_region_any ok.mixed ?_
    have hQ' : ∀ st' a w m H F, st'.n = st.n → f st' = some res → Rel w0 S m H F st' a w → Q' .normal a w := fun st' a w m H F h1 h2 h3 => hQ st' a w m H F h1 h2 h3
    have := pre_any (P := P) (Q := Q') (w0 := w0) (S := S) B hpl hsteps (fun i i' t _ _ => dsts_dist c2) (fun j hj => by
        cases hd : dstOf (ops.take p) j with
        | none => rfl
        | some d =>
          unfold dstOf at hd
          cases ho : (ops.take p)[j]? with
          | none => rw [ho] at hd; cases hd
          | some o =>
            rw [ho] at hd
            have := List.all_eq_true.1 c3 o (List.mem_of_getElem? ho)
            simp only [Option.bind_some] at hd
            rwa [hd] at this) (Kp := kB bef p ops.length) (fun i h1 h2 j _ hk => kB_F hk i h1 h2)
      (fun j o cs b ho hs => by
        have := List.all_eq_true.1 c6 o (List.mem_of_getElem? (by simpa using ho))
        rw [hs] at this; cases this)
      (fun c a w hq => hq)
      (fun k o hk hkp ho => by
        obtain ⟨k1, k2, k3⟩ := pendOk_spec c5 k o (by rw [List.getElem?_take, if_pos hk]; exact ho) (by rw [Nat.zero_add]; exact hkp)
        refine ⟨k1, k2, fun j oj hj hne hnl hno => ?_⟩
        rw [Nat.zero_add] at k3
        refine freeJ_spec k3 j oj hj (by omega) ?_ hno
        rw [Nat.zero_add]
        by_cases h1 : j < p
        · cases h2 : kB bef p ops.length j
          · exact absurd ⟨h1, .inl h2⟩ hnl
          · have h3 : ¬ j < k := fun h3 => hnl ⟨h1, .inr h3⟩
            have : Nat.blt j k = false := by
              cases hx : Nat.blt j k
              · rfl
              · exact absurd (by simpa [Nat.blt_eq] using hx) h3
            rw [this]; simp
        · have : Nat.blt j p = false := by
            cases hx : Nat.blt j p
            · rfl
            · exact absurd (by simpa [Nat.blt_eq] using hx) h1
          rw [this]; rfl)
      (fun listed a' w' m' H' F' hu hr' => by
        have := rest_any (n := st.n) ok B (restOk2_spec c4) hQ' (ops.drop p) p listed { st with fr := entsFr (fun _ => true) (entN (dstOf (ops.take p)) vs p) ++ st.fr, loc := locN st.loc bs p } a' w' m' H' F' rfl (Nat.le_refl _) hpl hu rfl hf hr'
        rwa [List.length_drop] at this)
      _ (ops.toArray.size) (Array.replicate ops.toArray.size false) a { w with drawn := w.drawn + 1 } m H F hsz (fun j _ _ => hf0 j) rfl ?_ (fun j _ hj => by rw [hf0 j] at hj; cases hj) (PInv.init (hr.drawn _) hf0)
    · exact this
    · have : ∀ n, cntB (fun j => !(Array.replicate ops.toArray.size false).getD j false) n = n := by
        intro n
        induction n with
        | zero => rfl
        | succ n ih => simp only [cntB, ih, hf0 n]; rfl
      rw [this]
      omega

end regions
end
end Go.Fw
/- Loops: what is kept at their heads. No condition. -/
namespace Go.Fw

theorem samePl_eq {p q : Place} (h : samePl p q = true) : p = q := by
  unfold samePl at h
  split at h
  · simp only [Bool.and_eq_true] at h
    rw [Nat.eq_of_beq_eq_true h.1, Nat.eq_of_beq_eq_true h.2]
  · cases h
theorem samePls_eq : ∀ {l m : List Place}, samePls l m = true → l = m
  | [], [], _ => rfl
  | [], _ :: _, h => by cases h
  | _ :: _, [], h => by cases h
  | p :: r, q :: s, h => by
    simp only [samePls, Bool.and_eq_true] at h
    rw [samePl_eq h.1, samePls_eq h.2]
theorem sameC_eq {c d : C} (h : sameC c d = true) : c = d := by
  unfold sameC at h
  split at h
  · simp only [Bool.and_eq_true] at h
    rw [Nat.eq_of_beq_eq_true h.1, samePls_eq h.2]
  · rfl
  · rw [samePl_eq h]
  · rfl
  · rw [Nat.eq_of_beq_eq_true h]
  · rfl
  · cases h

section dec
variable {Γ Δ : Ctx} {bs : List BK}

/-- What the new context must have where the shape of the blocks says so. -/
structure Holds (Γ Δ : Ctx) (bs : List BK) : Prop where
  h : Δ.h = Γ.h
  S : Δ.S = Γ.S
  m : Δ.m = Γ.m
  H : Δ.H = Γ.H
  F : Δ.F = Γ.F
  box : ∀ (b : Nat) (l : List CK), bs[b]? = some (.box l) → ∃ cs, Δ.loc[b]? = some (.box cs)
  row : ∀ (b : Nat) (p : Bool) (τ : Ty), bs[b]? = some (.row p τ) → ∃ p' τ' xs, Γ.loc[b]? = some (.row p' τ' xs) ∧ Δ.loc[b]? = some (.row p' τ' xs)

theorem rep_to (M : Holds Γ Δ bs) {τ : Ty} {x : τ.D} {vs : List Value} (h : Rep Γ.h Γ.S τ x vs) : All2 (cRel Δ) (enc τ x) vs := by
  refine enc_rel τ x vs ?_
  rw [M.h, M.S]; exact h

theorem pl_to (M : Holds Γ Δ bs) {p : Place} {v : Value} (h : plRel Γ p v) (hk : plOkIn bs p = true) : plRel Δ p v := by
  cases p with
  | box b o =>
    simp only [plOkIn] at hk
    split at hk
    · rename_i l hb
      obtain ⟨rfl, _⟩ := h
      obtain ⟨cs, hc⟩ := M.box b l hb
      exact ⟨by rw [M.m], cs, hc⟩
    · cases hk
  | elem b i o => cases hk
  | view τ x o => cases hk

theorem c_to (M : Holds Γ Δ bs) {c : C} {v : Value} (h : cRel Γ c v) (hk : c.okIn bs = true) : cRel Δ c v := by
  unfold C.okIn at hk
  split at hk
  · exact h
  · exact h
  · rename_i f caps
    obtain ⟨vs, rfl, ha⟩ := h
    refine ⟨vs, rfl, ?_⟩
    revert hk
    generalize vs.toList = l at ha
    intro hk
    induction ha with
    | nil => exact .nil
    | cons h _ ih =>
      simp only [List.all_cons, Bool.and_eq_true] at hk
      exact .cons (pl_to M h hk.1) (ih hk.2)
  · exact pl_to M h hk
  · exact h
  · rename_i b
    unfold rowOkIn at hk
    split at hk
    · rename_i p τ hb
      obtain ⟨p', τ', xs, _, hd⟩ := M.row b p τ hb
      exact ⟨by rw [M.H]; exact h.1, p', τ', xs, hd⟩
    · cases hk
  · cases hk

theorem caps_to (hS : Δ.S = Γ.S) (hh : Δ.h = Γ.h) : ∀ (l : List Ty) (ps : List Place) (x : TysD l) (vs : List Value), decTs l ps = some x → All2 (plRel Γ) ps vs → All2 (plRel Δ) (encTs l x) vs
  | [], [], x, vs, _, ha => by cases ha; exact .nil
  | [], _ :: _, x, vs, h, ha => by cases h
  | _ :: _, [], x, vs, h, ha => by cases h
  | τ :: r, p :: ps, x, vs, h, ha => by
    simp only [decTs] at h
    split at h
    · rename_i y z hy hz
      cases h
      cases ha with
      | cons h1 t1 =>
        refine .cons ?_ (caps_to hS hh r ps z _ hz t1)
        unfold viewP at hy
        split at hy
        · split at hy
          · rename_i he
            subst he
            cases hy
            obtain ⟨c, o, arr, te, fz, e, h2, h3, h4, h5⟩ := h1
            refine ⟨c, o, arr, te, fz, e, by rw [hS]; exact h2, by rw [hh]; exact h3, h4, ?_⟩
            rw [hS, hh]; exact h5
          · cases hy
        · cases hy
    · cases h

theorem slots_to (M : Holds Γ Δ bs) {tmps : Array Value} {fr : List (Nat × FV)} (hfr : ∀ t, fvRel Γ (look fr t) (tmps.getD t undef)) :
    ∀ (l : List (Nat × K)) (x : SlotsD l), slotsOk bs l = true → decSlots fr l = some x → ∀ t, fvRel Δ (look (encSlots l x) t) (tmps.getD t undef)
  | [], _, _, _, t => trivial
  | (t0, .dat ag τ) :: r, x, hk, h, t => by
    simp only [slotsOk] at hk
    simp only [decSlots] at h
    have h0 := hfr t0
    split at h
    · rename_i c hl
      split at h
      · rename_i x' y hx hy
        cases h
        simp only [encSlots, look]
        cases hb : Nat.beq t0 t
        · exact slots_to M hfr r y hk hy t
        · have := Nat.eq_of_beq_eq_true hb
          subst this
          rw [hl] at h0
          exact wrapV_rel (ag := false) (rep_to M (viewD_rel τ [c] x' _ hx (.cons h0 .nil))) (fun h => by cases h) fun _ => rfl
      · cases h
    · rename_i cs hl
      split at h
      · rename_i x' y hx hy
        cases h
        simp only [encSlots, look]
        cases hb : Nat.beq t0 t
        · exact slots_to M hfr r y hk hy t
        · have := Nat.eq_of_beq_eq_true hb
          subst this
          rw [hl] at h0
          obtain ⟨arr, e, ha⟩ := h0
          rw [e]
          exact wrapV_rel (ag := true) (rep_to M (viewD_rel τ cs x' _ hx ha)) (fun _ => rfl) fun h => by cases h
      · cases h
    · cases h
  | (t0, .cst c) :: r, x, hk, h, t => by
    simp only [slotsOk, Bool.and_eq_true] at hk
    simp only [decSlots] at h
    have h0 := hfr t0
    split at h
    · rename_i c' hl
      obtain ⟨hs, h⟩ := bif_some h
      simp only [encSlots, look]
      cases hb : Nat.beq t0 t
      · exact slots_to M hfr r x hk.2 h t
      · have := Nat.eq_of_beq_eq_true hb
        subst this
        rw [hl] at h0
        rw [sameC_eq hs] at h0
        exact c_to M h0 hk.1
    · cases h
  | (t0, .fnc f ts) :: r, x, hk, h, t => by
    simp only [slotsOk] at hk
    simp only [decSlots] at h
    have h0 := hfr t0
    split at h
    · rename_i f' ps hl
      obtain ⟨hs, h⟩ := bif_some h
      have hs := Nat.eq_of_beq_eq_true hs
      subst hs
      split at h
      · rename_i x' y hx hy
        cases h
        simp only [encSlots, look]
        cases hb : Nat.beq t0 t
        · exact slots_to M hfr r y hk hy t
        · have := Nat.eq_of_beq_eq_true hb
          subst this
          rw [hl] at h0
          obtain ⟨vs, e, ha⟩ := h0
          exact ⟨vs, e, caps_to M.S M.h ts ps x' _ hx ha⟩
      · cases h
    · cases h
  | (t0, .sub b) :: r, x, hk, h, t => by
    simp only [slotsOk, Bool.and_eq_true] at hk
    simp only [decSlots] at h
    have h0 := hfr t0
    split at h
    · rename_i b' o l hl
      obtain ⟨hs, h⟩ := bif_some h
      have hs := Nat.eq_of_beq_eq_true hs
      subst hs
      split at h
      · rename_i y hy
        cases h
        simp only [encSlots, look]
        cases hb : Nat.beq t0 t
        · exact slots_to M hfr r y hk.2 hy t
        · have := Nat.eq_of_beq_eq_true hb
          subst this
          rw [hl] at h0
          obtain ⟨pin, τ, xs, hc, hle, base, cap, e, h1, h2, h3⟩ := h0
          have hk1 := hk.1
          unfold rowOkIn at hk1
          split at hk1
          · rename_i p τ' hb'
            obtain ⟨p', τ'', xs', hg, hd⟩ := M.row b' p τ' hb'
            rw [hg] at hc
            cases hc
            exact ⟨_, _, _, hd, hle, base, cap, e, h1, h2, by rw [M.m]; exact h3⟩
          · cases hk1
      · cases h
    · cases h

theorem cks_to (M : Holds Γ Δ bs) : ∀ (l : List CK) (cs : List C) (x : CKsD l) (vs : List Value), cksOk bs l = true → decCKs l cs = some x → All2 (cRel Γ) cs vs → All2 (cRel Δ) (encCKs l x) vs
  | [], [], _, vs, _, _, ha => by cases ha; exact .nil
  | [], _ :: _, _, _, _, h, _ => by cases h
  | .dat τ :: r, cs, x, vs, hk, h, ha => by
    simp only [cksOk] at hk
    simp only [decCKs] at h
    split at h
    · rename_i y z hy hz
      cases h
      have h1 := viewD_rel τ _ y _ hy (ha.take τ.size)
      have h2 := cks_to M r _ z _ hk hz (ha.drop τ.size)
      have := (rep_to M h1).append h2
      rwa [List.take_append_drop] at this
    · cases h
  | .cst c :: r, [], x, vs, hk, h, ha => by cases h
  | .cst c :: r, c' :: cs, x, vs, hk, h, ha => by
    simp only [cksOk, Bool.and_eq_true] at hk
    simp only [decCKs] at h
    obtain ⟨hs, h⟩ := bif_some h
    cases ha with
    | cons h1 t =>
      rw [sameC_eq hs] at h1
      exact .cons (c_to M h1 hk.1) (cks_to M r cs x _ hk.2 h t)
end dec

/-- Where blocks come from. -/
theorem blks_from : ∀ (bs : List Blk) (l : List BK) (x : BlksD l), decBlks bs l = some x → ∀ (b : Nat),
    (l[b]? = none → (encBlks l x)[b]? = none) ∧
    (l[b]? = some .dead → (encBlks l x)[b]? = some .dead) ∧
    (∀ cks, l[b]? = some (.box cks) → ∃ cs y, bs[b]? = some (.box cs) ∧ decCKs cks cs = some y ∧ (encBlks l x)[b]? = some (.box (encCKs cks y))) ∧
    (∀ p τ, l[b]? = some (.row p τ) → ∃ xs, bs[b]? = some (.row p τ xs) ∧ (encBlks l x)[b]? = some (.row p τ xs))
  | _, [], x, h, b => by simp [encBlks]
  | [], .dead :: _, _, h, _ => by cases h
  | [], .box _ :: _, _, h, _ => by cases h
  | [], .row _ _ :: _, _, h, _ => by cases h
  | k :: bs, .dead :: r, x, h, b => by
    have h' : decBlks bs r = some x := by cases k <;> exact h
    cases b with
    | zero => simp [encBlks]
    | succ b => simpa [encBlks] using blks_from bs r x h' b
  | .dead :: bs, .box l :: r, x, h, b => by cases h
  | .row _ _ _ :: bs, .box l :: r, x, h, b => by cases h
  | .dead :: bs, .row _ _ :: r, x, h, b => by cases h
  | .box _ :: bs, .row _ _ :: r, x, h, b => by cases h
  | .box cs :: bs, .box l :: r, x, h, b => by
    simp only [decBlks] at h
    split at h
    · rename_i y z hy hz
      cases h
      cases b with
      | zero => simpa [encBlks] using ⟨y, hy, rfl⟩
      | succ b => simpa [encBlks] using blks_from bs r z hz b
    · cases h
  | .row p τ xs :: bs, .row p' τ' :: r, x, h, b => by
    simp only [decBlks] at h
    split at h
    · rename_i e
      subst e
      obtain ⟨hp, h⟩ := bif_some h
      have hp : p = p' := by simpa using hp
      subst hp
      split at h
      · rename_i z hz
        cases h
        cases b with
        | zero => simp [encBlks, cstL]
        | succ b => simpa [encBlks] using blks_from bs r z hz b
      · cases h
    · cases h

theorem blksOk_at {bs : List BK} : ∀ {l : List BK} {b : Nat} {cks : List CK}, blksOk bs l = true → l[b]? = some (.box cks) → cksOk bs cks = true
  | [], b, cks, _, h => by simp at h
  | k :: r, 0, cks, hk, h => by
    simp at h
    subst h
    simp only [blksOk, Bool.and_eq_true] at hk
    exact hk.1
  | k :: r, b + 1, cks, hk, h => by
    have : blksOk bs r = true := by
      cases k <;> simp only [blksOk, Bool.and_eq_true] at hk
      · exact hk
      · exact hk.2
      · exact hk
    exact blksOk_at this (by simpa using h)

/-- At a loop's head only its data count. -/
theorem Sig.dec_rel {w0 : W0} {w : World} {S : Nat → Prop} {m : Nat → Nat} {H : Nat → Value} {F : Nat → Nat → Prop} {st : St} {a : Act} {s : Sig} {x : s.D} (h : s.dec st = some x) (hr : Rel w0 S m H F st a w) :
    Rel w0 S m H F (s.enc st.n x) a w := by
  unfold Sig.dec at h
  obtain ⟨hok, h⟩ := bif_some h
  split at h
  · rename_i y z hy hz
    cases h
    simp only [Sig.ok, Bool.and_eq_true] at hok
    have hfrom := blks_from st.loc s.blks z hz
    have M : Holds ⟨w.heap, S, m, H, F, st.loc⟩ ⟨w.heap, S, m, H, F, encBlks s.blks z⟩ s.blks := by
      refine ⟨rfl, rfl, rfl, rfl, rfl, fun b l hb => ?_, fun b p τ hb => ?_⟩
      · obtain ⟨cs, y, _, _, h3⟩ := (hfrom b).2.2.1 l hb
        exact ⟨_, h3⟩
      · obtain ⟨xs, h1, h2⟩ := (hfrom b).2.2.2 p τ hb
        exact ⟨p, τ, xs, h1, h2⟩
    have alive : ∀ (b : Nat) (k : Blk), (encBlks s.blks z)[b]? = some k → k.alive = true → ∃ k0 : Blk, st.loc[b]? = some k0 ∧ k0.alive = true := by
      intro b k hk ha
      cases hb : s.blks[b]? with
      | none => rw [(hfrom b).1 hb] at hk; cases hk
      | some bk =>
        cases bk with
        | dead => rw [(hfrom b).2.1 hb] at hk; cases hk; cases ha
        | box l =>
          obtain ⟨cs, y, h1, _, _⟩ := (hfrom b).2.2.1 l hb
          exact ⟨_, h1, rfl⟩
        | row p τ =>
          obtain ⟨xs, h1, _⟩ := (hfrom b).2.2.2 p τ hb
          exact ⟨_, h1, rfl⟩
    refine ⟨hr.size, hr.defers, slots_to M hr.fr s.slots y hok.1 hy, fun b k hk => ?_, fun b k hk ha => ?_, fun b b' k k' hk hk' ha ha' => ?_, hr.stab, hr.grow, hr.os, hr.tape, hr.output, fun b τ xs hb => ?_⟩
    · replace hk : (encBlks s.blks z)[b]? = some k := hk
      show blkRel ⟨w.heap, S, m, H, F, encBlks s.blks z⟩ b k
      cases hb : s.blks[b]? with
      | none => rw [(hfrom b).1 hb] at hk; cases hk
      | some bk =>
        cases bk with
        | dead => rw [(hfrom b).2.1 hb] at hk; cases hk; trivial
        | box l =>
          obtain ⟨cs, y, h1, h2, h3⟩ := (hfrom b).2.2.1 l hb
          rw [h3] at hk
          cases hk
          obtain ⟨arr, te, hg, ha, hF⟩ := hr.blk b _ h1
          exact ⟨arr, te, hg, cks_to M l cs y _ (blksOk_at hok.2 hb) h2 ha, hF⟩
        | row p τ =>
          obtain ⟨xs, h1, h2⟩ := (hfrom b).2.2.2 p τ hb
          rw [h2] at hk
          cases hk
          exact hr.blk b _ h1
    · obtain ⟨k0, h1, h2⟩ := alive b k hk ha
      exact hr.own b k0 h1 h2
    · obtain ⟨k0, h1, h2⟩ := alive b k hk ha
      obtain ⟨k0', h1', h2'⟩ := alive b' k' hk' ha'
      exact hr.disj b b' k0 k0' h1 h1' h2 h2'
    · replace hb : (encBlks s.blks z)[b]? = some (.row true τ xs) := hb
      cases hs : s.blks[b]? with
      | none => rw [(hfrom b).1 hs] at hb; cases hb
      | some bk =>
        cases bk with
        | dead => rw [(hfrom b).2.1 hs] at hb; cases hb
        | box l =>
          obtain ⟨cs, y, h1, h2, h3⟩ := (hfrom b).2.2.1 l hs
          rw [h3] at hb; cases hb
        | row p τ' =>
          obtain ⟨xs', h1, h2⟩ := (hfrom b).2.2.2 p τ' hs
          rw [h2] at hb
          cases hb
          exact hr.pin b _ _ h1
  · cases h

end Go.Fw
/- A slice variable that is nil becomes an empty row. No condition. -/
namespace Go.Fw
section
variable {w0 : W0} {w : World} {S : Nat → Prop} {m : Nat → Nat} {H : Nat → Value} {F : Nat → Nat → Prop} {st : St} {a : Act}

theorem kill_nil_map (l : List Blk) : (deadAt [] 0 l).map (Blk.kill [] []) = l := by
  rw [deadAt_nil]
  induction l with
  | nil => rfl
  | cons b r ih => rw [List.map_cons, Blk.kill_nil, ih]

theorem St.mat1_n (st : St) (l : Mat) : (st.mat1 l).n = st.n := by
  cases l with
  | slot t τ => simp only [St.mat1]; split <;> rfl
  | cell b j τ =>
    simp only [St.mat1]
    split
    · split <;> rfl
    · rfl

theorem St.mat_n (l : List Mat) : ∀ st : St, (st.mat l).n = st.n := by
  induction l with
  | nil => intro st; rfl
  | cons x r ih => intro st; exact (ih _).trans (St.mat1_n st x)

theorem Rel.mat1 (h : Rel w0 S m H F st a w) (l : Mat) : ∃ H' F', Rel w0 S m H' F' (st.mat1 l) a w := by
  cases l with
  | slot t τ =>
    simp only [St.mat1]
    split
    · rename_i hl
      have h0 := h.fr t
      rw [hl] at h0
      obtain ⟨base, e⟩ := h0
      have h1 := h.addRow τ base
      refine ⟨_, _, { h1 with fr := fun u => ?_ }⟩
      show fvRel _ (look ((t, .v (.one (.sl (.row st.loc.length)))) :: st.fr) u) _
      simp only [look]
      cases hb : Nat.beq t u
      · exact h1.fr u
      · have := Nat.eq_of_beq_eq_true hb
        subst this
        refine ⟨?_, false, τ, [], by simp⟩
        rw [e]; simp
    · exact ⟨H, F, h⟩
  | cell b j τ =>
    simp only [St.mat1]
    split
    · rename_i cs hb
      split
      · rename_i hj
        obtain ⟨arr, te, hg, ha, hF⟩ := h.blk b _ hb
        obtain ⟨v, hv, base, e⟩ := ha.get j _ hj
        have h1 := h.addRow τ base
        have hblt : b < st.loc.length := (List.getElem?_eq_some_iff.1 hb).1
        have hb1 : (st.loc ++ [Blk.row false τ []])[b]? = some (.box cs) := by rw [getElem?_append_lt hblt]; exact hb
        have hne : b ≠ st.loc.length := by omega
        have key := Rel.upd (w' := w) (m' := m) (H' := (fun b => if b = st.loc.length then .slice base 0 0 else H b)) (F' := (fun b => if b = st.loc.length then (fun _ => False) else F b)) h1 (ds := []) (ns := []) (b := b)
          (k' := .box (cs.set j (.sl (.row st.loc.length)))) hb1 rfl (.inl (by simp)) (fun _ _ => ⟨rfl, rfl, rfl⟩) (Nat.le_refl _) (fun _ _ _ => rfl) rfl rfl rfl
          (fun c hc => ⟨.inl hc, h1.F_lt b _ hb1 rfl c hc⟩) (fun _ => ⟨.inl ⟨cs, _, rfl, rfl⟩, rfl⟩) (fun _ _ pin τ xs e => by cases e) (fun τ xs e => by cases e)
          (by
            rw [kill_nil_map]
            obtain ⟨arr', te', hg', ha', hF'⟩ := h1.blk b _ hb1
            have harr : arr' = arr := by
              have : (some (Obj.cells arr' te' (0, 0)) : Option Obj) = some (.cells arr te (0, 0)) := hg'.symm.trans hg
              simp only [Option.some.injEq, Obj.cells.injEq] at this
              exact this.1
            subst harr
            refine ⟨arr', te', hg', ?_, hF'⟩
            have M : Moves ⟨w.heap, S, m, (fun b => if b = st.loc.length then .slice base 0 0 else H b), (fun b => if b = st.loc.length then (fun _ => False) else F b), st.loc ++ [Blk.row false τ []]⟩
                ⟨w.heap, S, m, (fun b => if b = st.loc.length then .slice base 0 0 else H b), (fun b => if b = st.loc.length then (fun _ => False) else F b), (st.loc ++ [Blk.row false τ []]).set b (Blk.box (cs.set j (.sl (.row st.loc.length))))⟩ [] [] := by
              refine ⟨fun _ h => h, fun _ _ => rfl, fun b' cs' _ hb' => ⟨rfl, ?_⟩, fun b' pin τ2 xs2 _ hb' => ⟨rfl, rfl, pin, xs2, ?_, rfl⟩, fun b' pin τ2 xs2 _ _ _ _ => ⟨fun _ h => h, fun _ _ => rfl⟩⟩
              · by_cases e : b' = b
                · subst e
                  exact ⟨_, List.getElem?_set_self (by simp; omega)⟩
                · exact ⟨cs', by show (List.set _ b _)[b']? = _; rw [List.getElem?_set_ne (Ne.symm e)]; exact hb'⟩
              · have e : b' ≠ b := fun e => by
                  subst e
                  replace hb' : (st.loc ++ [Blk.row false τ []])[b']? = _ := hb'
                  rw [hb1] at hb'; cases hb'
                show (List.set _ b _)[b']? = _
                rw [List.getElem?_set_ne (Ne.symm e)]; exact hb'
            have hv' : arr'.toList.set j v = arr'.toList := by
              apply List.ext_getElem?
              intro i
              by_cases e : i = j
              · subst e
                rw [List.getElem?_set_self (List.getElem?_eq_some_iff.1 hv).1]; exact hv.symm
              · rw [List.getElem?_set_ne (Ne.symm e)]
            rw [← hv']
            refine All2.set (ha'.imp fun _ _ h => h.same M) j _ v ?_
            refine ⟨?_, false, τ, [], ?_⟩
            · rw [e]; simp
            · show (List.set _ b _)[st.loc.length]? = _
              rw [List.getElem?_set_ne (by omega)]
              simp)
        rw [killFr_nil, kill_nil_map] at key
        refine ⟨(fun b => if b = st.loc.length then .slice base 0 0 else H b), (fun b => if b = st.loc.length then (fun _ => False) else F b), ?_⟩
        have eset : (st.loc ++ [Blk.row false τ []]).set b (Blk.box (cs.set j (.sl (.row st.loc.length)))) = st.loc.set b (Blk.box (cs.set j (.sl (.row st.loc.length)))) ++ [Blk.row false τ []] := List.set_append_left _ _ hblt
        rw [← eset]
        exact key
      · exact ⟨H, F, h⟩
    · exact ⟨H, F, h⟩

theorem Rel.mat (l : List Mat) : ∀ (H : Nat → Value) (F : Nat → Nat → Prop) (st : St), Rel w0 S m H F st a w → ∃ H' F', Rel w0 S m H' F' (st.mat l) a w := by
  induction l with
  | nil => intro H F st h; exact ⟨H, F, h⟩
  | cons x r ih =>
    intro H F st h
    obtain ⟨H', F', h'⟩ := h.mat1 x
    exact ih H' F' _ h'
end
end Go.Fw
/- Code: what the interpreter takes, the machine does. No condition. -/
namespace Go.Fw

def Ex.to : Ex → Exit
  | .normal => .normal
  | .ret => .ret
  | .exit id => .exit id

/-- The rounds of a loop, at most k. -/
noncomputable def roundN (E : Tabs) (L : Nat → Option LP) (lm : LM) (n : Nat) (body : Code) : Nat → lm.head.D → Option (LRes lm.rets lm.out.D)
  | 0 => fun _ => none
  | k + 1 => round E L lm n body (roundN E L lm n body k)

/-- A loop's model is what its rounds give. -/
def LoopOK (E : Tabs) (L : Nat → Option LP) (n : Nat) (body : Code) (lm : LM) : Prop := ∀ x y, lm.run x = some y → ∃ k, roundN E L lm n body k x = some y

/-- All loops' models. -/
def LoopsOK (E : Tabs) (L : Nat → Option LP) (n : Nat) : Code → Prop
  | .seq a b => LoopsOK E L n a ∧ LoopsOK E L n b
  | .cond _ a b => LoopsOK E L n a ∧ LoopsOK E L n b
  | .block _ c => LoopsOK E L n c
  | .loop body => (∀ r lm, firstReg body = some r → L r = some (.lm lm) → LoopOK E L n body lm) ∧ LoopsOK E L n body
  | _ => True

theorem unroll_sound {R : Type} {res : R} {P : Program} {E : Tabs} {L : Nat → Option LP} {body : Code} {n : Nat} {w0 : W0} {S : Nat → Prop} {f : Ex → St → Option R} {Q : Exit → Act → World → Prop}
    (ih : ∀ (st : St) (f : Ex → St → Option R) (m : Nat → Nat) (H : Nat → Value) (F : Nat → Nat → Prop) (a : Act) (w : World) (Q : Exit → Act → World → Prop), st.n = n → exec E L body st f = some res → Rel w0 S m H F st a w →
      (∀ e st' m' H' F' a' w', st'.n = n → f e st' = some res → Rel w0 S m' H' F' st' a' w' → Q e.to a' w') → body.wp P Q a w)
    (hQ : ∀ e st' m' H' F' a' w', st'.n = n → f e st' = some res → Rel w0 S m' H' F' st' a' w' → Q e.to a' w') (k : Nat) {st : St} {m : Nat → Nat} {H : Nat → Value} {F : Nat → Nat → Prop} {a : Act} {w : World} (hn : st.n = n)
    (h : unrollK (fun st' g => exec E L body st' g) k st f = some res) (hr : Rel w0 S m H F st a w) : (Code.loop body).wp P Q a w := by
  refine wp_loop_ghost (fun k a w => ∃ (st : St) (m : Nat → Nat) (H : Nat → Value) (F : Nat → Nat → Prop), st.n = n ∧ unrollK (fun st' g => exec E L body st' g) k st f = some res ∧ Rel w0 S m H F st a w) k ⟨st, m, H, F, hn, h, hr⟩ ?_
  rintro k a w ⟨st, m, H, F, hn, h, hr⟩
  cases k with
  | zero => cases h
  | succ k =>
    simp only [unrollK] at h
    refine ih st _ m H F a w _ hn h hr fun e st' m' H' F' a' w' hn' he hr' => ?_
    cases e with
    | normal => exact ⟨k, Nat.lt_succ_self k, st', m', H', F', hn', he, hr'⟩
    | ret => exact hQ .ret st' m' H' F' a' w' hn' he hr'
    | exit i => exact hQ (.exit i) st' m' H' F' a' w' hn' he hr'

theorem endL_ret {R D : Type} {res : R} {enc : D → St} {ex : Nat} {f : Ex → St → Option R} : {r : Bool} → {y' : D} → {y : LRes r D} → mkRes r true y' = some y → endL enc ex f r y = some res → f .ret (enc y') = some res
  | true, _, _, h, h2 => by cases h; exact h2
  | false, _, _, h, _ => by cases h

theorem endL_exit {R D : Type} {res : R} {enc : D → St} {ex : Nat} {f : Ex → St → Option R} : {r : Bool} → {y' : D} → {y : LRes r D} → mkRes r false y' = some y → endL enc ex f r y = some res → f (.exit ex) (enc y') = some res
  | true, _, _, h, h2 => by cases h; exact h2
  | false, _, _, h, h2 => by cases h; exact h2

theorem exec_sound {P : Program} {E : Tabs} (ok : EnvOK P E) {L : Nat → Option LP} {w0 : W0} {S : Nat → Prop} {n : Nat} : ∀ (c : Code), LoopsOK E L n c → ∀ (R : Type) (res : R) (st : St) (f : Ex → St → Option R) (m : Nat → Nat) (H : Nat → Value) (F : Nat → Nat → Prop)
    (a : Act) (w : World) (Q : Exit → Act → World → Prop), st.n = n → exec E L c st f = some res → Rel w0 S m H F st a w →
    (∀ e st' m' H' F' a' w', st'.n = n → f e st' = some res → Rel w0 S m' H' F' st' a' w' → Q e.to a' w') → c.wp P Q a w := by
  intro c
  induction c with
  | skip => intro _ R res st f m H F a w Q hn h hr hQ; exact wp_skip (hQ .normal st m H F a w hn h hr)
  | region id ops draw =>
    intro _ R res st f m H F a w Q hn h hr hQ
    simp only [exec] at h
    have := regionK_sound (Q := Q) (id := id) ok h hr fun st' a w m H F hn' hf hr' => hQ .normal st' m H F a w (hn'.trans hn) hf hr'
    simpa using this
  | seq x y ihx ihy =>
    intro hL R res st f m H F a w Q hn h hr hQ
    simp only [exec] at h
    refine wp_seq (ihx hL.1 R res st _ m H F a w _ hn h hr fun e st' m' H' F' a' w' hn' he hr' => ?_)
    cases e with
    | normal => exact ihy hL.2 R res st' f m' H' F' a' w' Q hn' he hr' hQ
    | ret => exact hQ .ret st' m' H' F' a' w' hn' he hr'
    | exit i => exact hQ (.exit i) st' m' H' F' a' w' hn' he hr'
  | cond c x y ihx ihy =>
    intro hL R res st f m H F a w Q hn h hr hQ
    simp only [exec] at h
    split at h
    · rename_i t ht
      have hc : a.eval c = .bool t := by
        have := ev_rel hr c
        rw [ht] at this
        exact this
      have hlearn : ∀ b, t = b → Rel w0 S m H F (st.learn c b) a w := fun b e => by
        cases c with
        | tmp u => exact hr.learn (by rw [← e]; exact ht)
        | _ => exact hr
      have hln : ∀ b, (st.learn c b).n = n := fun b => by cases c <;> exact hn
      cases t
      · exact wp_cond_false hc (ihy hL.2 R res _ f m H F a w Q (hln _) h (hlearn _ rfl) hQ)
      · exact wp_cond_true hc (ihx hL.1 R res _ f m H F a w Q (hln _) h (hlearn _ rfl) hQ)
    · cases h
  | block id c ih =>
    intro hL R res st f m H F a w Q hn h hr hQ
    simp only [exec] at h
    refine wp_block (ih hL R res st _ m H F a w _ hn h hr fun e st' m' H' F' a' w' hn' he hr' => ?_)
    cases e with
    | normal => exact hQ .normal st' m' H' F' a' w' hn' he hr'
    | ret => exact hQ .ret st' m' H' F' a' w' hn' he hr'
    | exit i =>
      show (if i = id then Q .normal a' w' else Q (.exit i) a' w')
      simp only [] at he
      cases hb : Nat.beq i id
      · rw [hb] at he
        have : i ≠ id := fun e => by subst e; simp at hb
        rw [if_neg this]
        exact hQ (.exit i) st' m' H' F' a' w' hn' he hr'
      · rw [hb] at he
        rw [if_pos (Nat.eq_of_beq_eq_true hb)]
        exact hQ .normal st' m' H' F' a' w' hn' he hr'
  | loop body ih =>
    intro hL R res st f m H F a w Q hn h hr hQ
    simp only [exec] at h
    split at h
    · rename_i r hf
      split at h
      · rename_i lm hlm
        split at h
        · rename_i x hx
          cases hrun : lm.run x with
          | none => rw [hrun] at h; cases h
          | some y =>
            rw [hrun] at h
            simp only [Option.bind_some] at h
            obtain ⟨H1, F1, hr1⟩ := Rel.mat lm.mat H F st hr
            have hr2 := Sig.dec_rel hx hr1
            rw [St.mat_n, hn] at hr2
            rw [hn] at h
            obtain ⟨k, hk⟩ := hL.1 r lm hf hlm x y hrun
            refine wp_loop_ghost (fun k a w => ∃ (x : lm.head.D) (m : Nat → Nat) (H : Nat → Value) (F : Nat → Nat → Prop), roundN E L lm n body k x = some y ∧ Rel w0 S m H F (lm.head.enc n x) a w) k ⟨x, m, H1, F1, hk, hr2⟩ ?_
            rintro k a w ⟨x, m, H, F, hk, hr⟩
            cases k with
            | zero => cases hk
            | succ k =>
              simp only [roundN, round] at hk
              refine ih hL.2 _ y _ _ m H F a w _ rfl hk hr fun e st' m' H' F' a' w' hn' he hr' => ?_
              cases e with
              | normal =>
                simp only [] at he
                split at he
                · rename_i x' hx'
                  obtain ⟨H2, F2, hr3⟩ := Rel.mat lm.mat H' F' st' hr'
                  have hr4 := Sig.dec_rel hx' hr3
                  rw [St.mat_n, hn'] at hr4
                  exact ⟨k, Nat.lt_succ_self k, x', m', H2, F2, he, hr4⟩
                · cases he
              | ret =>
                simp only [] at he
                split at he
                · rename_i y' hy'
                  have hr4 := Sig.dec_rel hy' hr'
                  rw [hn'] at hr4
                  exact hQ .ret _ m' H' F' a' w' rfl (endL_ret he h) hr4
                · cases he
              | exit i =>
                simp only [] at he
                have h0 := bif_some he
                clear he
                obtain ⟨hi, he⟩ := h0
                have hi := Nat.eq_of_beq_eq_true hi
                subst hi
                split at he
                · rename_i y' hy'
                  have hr4 := Sig.dec_rel hy' hr'
                  rw [hn'] at hr4
                  exact hQ (.exit _) _ m' H' F' a' w' rfl (endL_exit he h) hr4
                · cases he
        · cases h
      · rename_i k hk
        exact unroll_sound (n := n) (fun st f m H F a w Q => ih hL.2 R res st f m H F a w Q) hQ k hn h hr
      · cases h
    · cases h
  | exit id => intro _ R res st f m H F a w Q hn h hr hQ; exact wp_exit (hQ (.exit id) st m H F a w hn h hr)
  | ret => intro _ R res st f m H F a w Q hn h hr hQ; exact wp_ret (hQ .ret st m H F a w hn h hr)
  | label l => intro _ R res st f m H F a w Q hn h hr hQ; exact wp_label (hQ .normal st m H F a w hn h hr)
  | goto _ => intro _ R res st f m H F a w Q hn h hr hQ; cases h
  | scope _ _ => intro _ R res st f m H F a w Q hn h hr hQ; cases h
  | refuse _ => intro _ R res st f m H F a w Q hn h hr hQ; cases h
  | rangeFunc _ _ _ _ => intro _ R res st f m H F a w Q hn h hr hQ; cases h

end Go.Fw
/- Functions that leave their arguments alone: the interpreter's run of the body is a model. No condition. -/
namespace Go.Fw

/-! ### results -/
section res
variable {P : Program} {E : Tabs} {w0 : W0} {w : World} {S : Nat → Prop} {m : Nat → Nat} {H : Nat → Value} {F : Nat → Nat → Prop} {st : St} {a : Act}

def readRes (tmps : Array Value) : ResultVar → Sem Value
  | .tmp t => pure (tmps.getD t undef)
  | .cell a t => do loadVar t (← asAddr (tmps.getD a undef))

theorem resV_rel (ok : TabOK P E.T) (hr : Rel w0 S m H F st a w) {rv : ResultVar} {fv : FV} (h : resV E st rv = some fv) :
    fv = .undef ∨ (∃ xs, fv = .tup xs) ∨ ∃ v, (readRes a.tmps rv).run P w = .ok v w ∧ fvRel ⟨w.heap, S, m, H, F, st.loc⟩ fv v := by
  cases rv with
  | tmp t =>
    simp only [resV, Option.some.injEq] at h
    subst h
    exact .inr (.inr ⟨a.tmps.getD t undef, by simp [readRes], hr.fr t⟩)
  | cell x t =>
    simp only [resV] at h
    split at h
    · rename_i p ti hl ht
      split at h
      · rename_i cs hc
        simp only [Option.some.injEq] at h
        subst h
        have h0 := hr.fr x
        rw [hl] at h0
        obtain ⟨c, off, arr, te, fz, e, hg, hle, ha⟩ := loadC_rel (Γ := ⟨w.heap, S, m, H, F, st.loc⟩) hr.blk hc h0
        have tok := ok t ti ht
        by_cases h1 : ti.und.agg = true ∨ ti.size = 1
        · obtain ⟨v, hv, g1, g2⟩ := run_loadVar_win tok hg hle h1
          refine .inr (.inr ⟨v, ?_, wrapV_rel ha g1 g2⟩)
          simp only [readRes, e, asAddr, Sem.run_bind, Sem.run_pure, Result.andThen_ok]
          exact hv
        · refine .inl ?_
          have hag : ti.und.agg = false := by
            cases hx : ti.und.agg
            · rfl
            · exact absurd (.inl hx) h1
          have hs : ti.size ≠ 1 := fun e => h1 (.inr e)
          rw [hag]
          have hlen := ha.length
          have hwl := win_length hle
          unfold wrapV
          split
          · rename_i hx; cases hx
          · split
            · simp at hlen; omega
            · rfl
      · cases h
    · cases h

theorem resC_rel (ok : TabOK P E.T) (hr : Rel w0 S m H F st a w) : ∀ (l : List (Bool × Ty)) (vs : List ResultVar) (cs : List C), resC E st l vs = some cs →
    ∃ vals cells, (vs.mapM (readRes a.tmps)).run P w = .ok vals w ∧ TupCells l vals cells ∧ All2 (cRel ⟨w.heap, S, m, H, F, st.loc⟩) cs cells
  | [], [], cs, h => by
    cases h
    exact ⟨[], [], by simp, ⟨rfl, rfl⟩, .nil⟩
  | [], _ :: _, cs, h => by cases h
  | _ :: _, [], cs, h => by cases h
  | (ag, τ) :: r, v :: vs, cs, h => by
    simp only [resC] at h
    split at h
    · rename_i c l hv hl
      obtain ⟨hb, h⟩ := bif_some h
      cases h
      obtain ⟨vals, cells, h1, h2, h3⟩ := resC_rel ok hr r vs l hl
      rcases resV_rel ok hr hv with e | ⟨_, e⟩ | ⟨x, hx, hfx⟩
      · cases e
      · cases e
      · rw [Bool.and_eq_true] at hb
        have hag : ag = false := by simpa using hb.1
        refine ⟨x :: vals, [x] ++ cells, ?_, ⟨x, vals, [x], cells, rfl, rfl, (Nat.eq_of_beq_eq_true hb.2).symm, fun e => by (rw [hag] at e; cases e), fun _ => rfl, h2⟩, .cons hfx h3⟩
        simp only [List.mapM_cons, Sem.run_bind, hx, Result.andThen_ok, h1, Sem.run_pure]
    · rename_i c l hv hl
      obtain ⟨hb, h⟩ := bif_some h
      cases h
      obtain ⟨vals, cells, h1, h2, h3⟩ := resC_rel ok hr r vs l hl
      rcases resV_rel ok hr hv with e | ⟨_, e⟩ | ⟨x, hx, arr, rfl, ha⟩
      · cases e
      · cases e
      · rw [Bool.and_eq_true] at hb
        have hlen := ha.length
        have hb2 := Nat.eq_of_beq_eq_true hb.2
        refine ⟨.agg arr :: vals, arr.toList ++ cells, ?_, ⟨.agg arr, vals, arr.toList, cells, rfl, rfl, by omega, fun _ => by simp, fun e => by (rw [hb.1] at e; cases e), h2⟩, ha.append h3⟩
        simp only [List.mapM_cons, Sem.run_bind, hx, Result.andThen_ok, h1, Sem.run_pure]
    · cases h

theorem results_run {fn : Func} {tmps vals : Array Value} (h : (fn.results.toList.mapM (readRes tmps)).run P w = .ok vals.toList w) :
    (results fn tmps).run P w = .ok (if h : vals.size = 1 then vals[0] else .tuple vals) w := by
  have e : results fn tmps = (fn.results.mapM (readRes tmps) >>= fun vs => pure (if h : vs.size = 1 then vs[0] else .tuple vs)) := by
    unfold results
    rfl
  rw [e, Array.mapM_eq_mapM_toList]
  simp only [Sem.run_bind, map_eq_pure_bind, h, Result.andThen_ok, Sem.run_pure]

/-- What leaves: the value, and the data that it is. -/
theorem resD_rel (ok : TabOK P E.T) (hr : Rel w0 S m H F st a w) {fn : Func} {r : RTy} {x : r.D} {l : List Nat} (h : resD E st fn.results.toList r = some (x, l)) (hn : l.Nodup) :
    ∃ v, (results fn a.tmps).run P w = .ok v w ∧ ResRel w.heap S r x v (rowsF F l) ∧ ∀ b, b ∈ l → ∃ τ xs, st.loc[b]? = some (.row false τ xs) := by
  cases r with
  | one ag τ =>
    simp only [resD] at h
    split at h
    · rename_i cs hc
      obtain ⟨vals, cells, h1, h2, h3⟩ := resC_rel ok hr _ _ _ hc
      obtain ⟨v, vr, c1, c2, rfl, rfl, hl, ha, hb, h4⟩ := h2
      obtain ⟨rfl, rfl⟩ := h4
      rw [List.append_nil] at h3
      obtain ⟨h5, h6⟩ := ownD_rel (Γ := ⟨w.heap, S, m, H, F, st.loc⟩) hr.blk hr.disj _ _ _ _ _ h hn h3
      refine ⟨v, ?_, ⟨c1, ha, hb, h5⟩, h6⟩
      exact results_run (vals := #[v]) h1
    · cases h
  | tup ts =>
    simp only [resD] at h
    cases hlen : Nat.beq ts.length 1
    · rw [hlen] at h
      simp only [cond_false] at h
      split at h
      · rename_i cs hc
        obtain ⟨vals, cells, h1, h2, h3⟩ := resC_rel ok hr _ _ _ hc
        obtain ⟨h5, h6⟩ := ownD_rel (Γ := ⟨w.heap, S, m, H, F, st.loc⟩) hr.blk hr.disj _ _ _ _ _ h hn h3
        have hvl : ∀ (l : List (Bool × Ty)) (vs cs : List Value), TupCells l vs cs → vs.length = l.length := by
          intro l
          induction l with
          | nil => intro vs cs h; rw [h.1]; rfl
          | cons p r ih =>
            intro vs cs h
            obtain ⟨v, vr, c1, c2, rfl, _, _, _, _, h4⟩ := h
            simp [ih _ _ h4]
        have hne : vals.toArray.size ≠ 1 := by
          have := hvl _ _ _ h2
          have h7 : ts.length ≠ 1 := fun e => by rw [e] at hlen; cases hlen
          simp; omega
        refine ⟨.tuple vals.toArray, ?_, ⟨vals.toArray, cells, rfl, by simpa using h2, h5⟩, h6⟩
        have := results_run (P := P) (fn := fn) (tmps := a.tmps) (w := w) (vals := vals.toArray) h1
        rwa [dif_neg hne] at this
      · cases h
    · rw [hlen] at h; cases h
end res

/-! ### data without views -/
def noRR : RTy → Bool
  | .one _ τ => noR τ
  | .tup l => noR (tupTy l)

theorem ResRel.noR {h : Heap} {S S' : Nat → Prop} {r : RTy} {x : r.D} {v : Value} {F : Nat → Prop} (hn : noRR r = true) (hr : ResRel h S r x v F) : ResRel h S' r x v F := by
  cases r with
  | one ag τ =>
    obtain ⟨cs, h1, h2, h3⟩ := hr
    exact ⟨cs, h1, h2, Own.noR _ _ _ _ hn h3⟩
  | tup l =>
    obtain ⟨arr, cs, h1, h2, h3⟩ := hr
    exact ⟨arr, cs, h1, h2, Own.noR _ _ _ _ hn h3⟩

/-! ### what comes in, read alone -/
def roOnly : List PTy → Bool
  | [] => true
  | .ro _ _ :: r => roOnly r
  | .rptr _ :: r => roOnly r
  | .fnc _ _ :: r => roOnly r
  | _ => false

theorem ref_view {Γ : Ctx} {τ : Ty} {x : τ.D} {v : Value} (h : RefRel Γ.h Γ.S τ x v) : plRel Γ (.view τ x 0) v := by
  obtain ⟨c, o, arr, te, fz, rfl, h1, h2, h3, h4⟩ := h
  exact ⟨c, o, arr, te, fz, rfl, h1, h2, h3, h4⟩

theorem caps_view {Γ : Ctx} : ∀ (l : List Ty) (x : TysD l) (vs : List Value), CapsRel Γ.h Γ.S l x vs → All2 (plRel Γ) (enterP.encCaps l x) vs
  | [], _, vs, h => by cases h; exact .nil
  | τ :: r, x, vs, h => by
    obtain ⟨v, vr, rfl, h1, h2⟩ := h
    exact .cons (ref_view h1) (caps_view r x.2 vr h2)

theorem look_enter_lt : ∀ (ps : List PTy) (t n : Nat) (ds : PD ps) (u : Nat), u < t → look (enterPs t n ps ds).1 u = .undef
  | [], _, _, _, _, _ => rfl
  | p :: r, t, n, ds, u, h => by
    simp only [enterPs, look]
    have hb : Nat.beq t u = false := by
      cases hb : Nat.beq t u
      · rfl
      · have := Nat.eq_of_beq_eq_true hb; omega
    rw [hb]
    exact look_enter_lt r (t + 1) _ ds.2 u (by omega)

theorem enter_ro {Γ : Ctx} : ∀ (ps : List PTy) (t n : Nat) (ds : PD ps) (vs : List Value) (G : Nat → Prop), roOnly ps = true → ArgsRel Γ.h Γ.S ps ds vs G →
    (enterPs t n ps ds).2 = [] ∧ ∀ u v, (vs[u]? = some v → fvRel Γ (look (enterPs t n ps ds).1 (t + u)) v) ∧ (vs[u]? = none → look (enterPs t n ps ds).1 (t + u) = .undef)
  | [], t, n, ds, vs, G, _, h => by
    cases h
    exact ⟨rfl, fun u v => ⟨fun h => by simp at h, fun _ => rfl⟩⟩
  | p :: r, t, n, ds, vs, G, hp, h => by
    obtain ⟨v0, vr, F1, F2, rfl, h1, h2, _⟩ := h
    have key : (enterP n p ds.1).2 = [] ∧ fvRel Γ (enterP n p ds.1).1 v0 ∧ roOnly r = true := by
      cases p with
      | ro ag τ =>
        refine ⟨rfl, ?_, hp⟩
        cases ag
        · exact wrapV_rel (ag := false) (enc_rel τ ds.1 _ h1.1) (fun e => by cases e) fun _ => rfl
        · obtain ⟨arr, rfl, h1⟩ := h1
          exact wrapV_rel (ag := true) (enc_rel τ ds.1 _ h1) (fun _ => by simp) fun e => by cases e
      | rptr τ => exact ⟨rfl, ref_view h1, hp⟩
      | fnc f caps =>
        obtain ⟨vs, rfl, h1⟩ := h1
        exact ⟨rfl, ⟨vs, rfl, caps_view caps ds.1 _ h1⟩, hp⟩
      | own ag τ => cases hp
      | optr τ => cases hp
    obtain ⟨k1, k2, k3⟩ := key
    obtain ⟨i1, i2⟩ := enter_ro r (t + 1) (n + (enterP n p ds.1).2.length) ds.2 vr F2 k3 h2
    refine ⟨by simp only [enterPs, k1]; rw [k1] at i1; simpa using i1, fun u v => ?_⟩
    cases u with
    | zero =>
      refine ⟨fun hv => ?_, fun hv => by simp at hv⟩
      simp at hv
      subst hv
      simp only [enterPs, Nat.add_zero, look, Nat.beq_refl, cond_true]
      exact k2
    | succ u =>
      have hb : Nat.beq t (t + (u + 1)) = false := by
        cases hb : Nat.beq t (t + (u + 1))
        · rfl
        · have := Nat.eq_of_beq_eq_true hb; omega
      simp only [enterPs, look, hb, cond_false, List.getElem?_cons_succ]
      rw [show t + (u + 1) = t + 1 + u by omega]
      exact i2 u v

theorem getElem?_args (vs : List Value) (k : Nat) (u : Nat) : (vs.toArray ++ Array.replicate k undef).getD u undef = (vs[u]?).getD undef := by
  rw [Array.getD_eq_getD_getElem?, Array.getElem?_append]
  split
  · simp
  · rename_i h
    have h : vs.length ≤ u := by simpa using h
    rw [List.getElem?_eq_none h]
    cases hx : (Array.replicate k undef)[u - vs.toArray.size]? with
    | none => rfl
    | some y =>
      rw [Array.getElem?_replicate] at hx
      split at hx <;> cases hx
      rfl

section fn
variable {P : Program} {E : Tabs}

/-- **A function's call**: what the interpreter makes of its body. -/
theorem calls_of_eval (ok : EnvOK P E) {f : FuncId} {fn : Func} {c : Code} {L : Nat → Option LP} {fm : FM} (hf : P.funcs[f]? = some fn) (hbody : fn.body = some c) (hro : roOnly fm.ps = true) (hnr : noRR fm.res = true)
    (hsz : fm.ps.length ≤ fn.ntmps) (hL : LoopsOK E L fn.ntmps c) {w : World} {args : List Value} {ds : PD fm.ps} {out : fm.res.D} (hargs : ArgsRel w.heap (fun c => c < w.heap.size) fm.ps ds args (fun _ => False)) (hev : evalF E L fn fm.ps fm.res ds = some out) :
    Calls P f args.toArray w fun e w' => ∃ v, e = .returned v ∧ (Ext w w' ∧ ∃ F, ResRel w'.heap (fun _ => False) fm.res out v F ∧ ∀ c, F c → w.heap.size ≤ c ∧ c < w'.heap.size) := by
  unfold evalF at hev
  rw [hbody] at hev
  simp only [] at hev
  obtain ⟨e1, e2⟩ := enter_ro (Γ := ⟨w.heap, fun c => c < w.heap.size, fun _ => 0, fun _ => undef, fun _ _ => False, []⟩) fm.ps 0 0 ds args _ hro hargs
  have hlen : ∀ (ps : List PTy) (ds : PD ps) (vs : List Value) (G : Nat → Prop), ArgsRel w.heap (fun c => c < w.heap.size) ps ds vs G → vs.length = ps.length := by
    intro ps
    induction ps with
    | nil => intro ds vs G h; cases h; rfl
    | cons p r ih =>
      intro ds vs G h
      obtain ⟨_, vr, _, F2, rfl, _, h2, _⟩ := h
      simp [ih _ _ _ h2]
  have hal := hlen _ _ _ _ hargs
  rw [e1] at hev
  refine calls_of_wp hf hbody ?_
  refine exec_sound (w0 := ⟨w, fun _ => undef⟩) (S := fun c => c < w.heap.size) ok c hL _ out _ _ (fun _ => 0) (fun _ => undef) (fun _ _ => False) _ w _ rfl hev ?_ ?_
  · refine ⟨?_, rfl, fun t => ?_, fun b k hk => by simp at hk, fun b k hk => by simp at hk, fun b b' k k' hk => by simp at hk, fun c hc => ⟨hc, rfl⟩, Nat.le_refl _, rfl, rfl, rfl, fun b τ xs hb => by simp at hb⟩
    · simp; omega
    · show fvRel _ (look (enterPs 0 0 fm.ps ds).1 t) _
      rw [getElem?_args]
      have := e2 t
      rw [Nat.zero_add] at this
      cases hv : args[t]? with
      | none => rw [(this undef).2 hv]; trivial
      | some v => exact (this v).1 hv
  · intro e st' m' H' F' a' w' hn he hr'
    have fin : outF E fn fm.res st' = some out →
        a'.defers = [] ∧ ∃ v, (results fn a'.tmps).run P w' = .ok v w' ∧ ∃ v', Ending.returned v = .returned v' ∧ (Ext w w' ∧ ∃ F, ResRel w'.heap (fun _ => False) fm.res out v' F ∧ ∀ c, F c → w.heap.size ≤ c ∧ c < w'.heap.size) := by
      intro h
      unfold outF at h
      split at h
      · rename_i x l hres
        obtain ⟨hnd, h⟩ := bif_some h
        cases h
        obtain ⟨v, h1, h2, h3⟩ := resD_rel ok.tab hr' hres ((nodupB_iff l).1 hnd)
        refine ⟨hr'.defers, v, h1, v, rfl, ⟨hr'.grow, fun c hc => (hr'.stab c hc).2, hr'.os, hr'.tape, hr'.output⟩, _, h2.noR hnr, ?_⟩
        rintro c ⟨b, hb, hc⟩
        obtain ⟨τ, xs, hl⟩ := h3 b hb
        have := hr'.own b _ hl rfl c hc
        exact ⟨Nat.le_of_not_lt this.2, this.1⟩
      · cases h
    cases e with
    | normal => exact fin he
    | ret => exact fin he
    | exit i => cases he
/-- **A function's model**: what the interpreter makes of its body. -/
theorem FmOK.of_eval (ok : EnvOK P E) {f : FuncId} {fn : Func} {c : Code} {L : Nat → Option LP} {fm : FM} (hf : P.funcs[f]? = some fn) (hbody : fn.body = some c) (hname : (fn.name == "runtime.NumGoroutine") = false) (hro : roOnly fm.ps = true) (hnr : noRR fm.res = true)
    (hsz : fm.ps.length ≤ fn.ntmps) (hL : LoopsOK E L fn.ntmps c) (heval : ∀ ds out, fm.run ds = some out → evalF E L fn fm.ps fm.res ds = some out) : FmOK P f fm := fun _ _ ds out hargs hrun =>
  Lands.of_calls hf (by rw [hbody]; rfl) hname (calls_of_eval ok hf hbody hro hnr hsz hL hargs (heval ds out hrun))
end fn
end Go.Fw
/- From a given row to a function's model. No condition. -/
namespace Go.Fw
open Go.ChangeShapes Go.WideShapes Go.ChangeAt Go.RowKit

/-! ### types of the program as types of data -/
def sizeIs (T : Tab) (t : TypeId) (n : Nat) : Bool := match T t with
  | some ti => Nat.beq ti.size n
  | none => false

def fldB (T : Tab) (f : TypeId → Ty → Bool) : Nat → List (Nat × TypeId) → Ty → Bool
  | _, [], .unit => true
  | off, (o, t) :: r, .pair a b => Nat.beq o off && sizeIs T t a.size && f t a && fldB T f (off + a.size) r b
  | _, _, _ => false

def arrB (f : Ty → Bool) : Nat → Ty → Ty → Bool
  | 0, _, .unit => true
  | n + 1, e, .pair a b => decide (a = e) && f a && arrB f n e b
  | _, _, _ => false

def tyB (T : Tab) : Nat → TypeId → Ty → Bool
  | 0, _, _ => false
  | n + 1, t, τ => match T t with
    | none => false
    | some ti => match ti.und, τ with
      | .int k, .int k' => decide (k = k')
      | .flt k, .flt k' => decide (k = k')
      | .bool, .bool => true
      | .str, .str => true
      | .slice e, .slice τ' => sizeIs T e τ'.size && Nat.blt 0 τ'.size && tyB T n e τ'
      | .struct fs, τ => Nat.beq ti.size τ.size && fldB T (tyB T n) 0 fs τ
      | _, _ => false

theorem sizeIs_spec {P : Program} {T : Tab} (ok : TabOK P T) {t : TypeId} {n : Nat} (h : sizeIs T t n = true) : P.cellsOf t = n := by
  unfold sizeIs at h
  split at h
  · rename_i ti ht
    obtain ⟨i, hi, hs, _⟩ := (ok t ti ht).info
    unfold Program.cellsOf
    rw [hi]
    simp only [Option.map_some, Option.getD_some]
    rw [hs]; exact Nat.eq_of_beq_eq_true h
  · cases h

section open_
variable {H : Type} {enc : TypeId × Value → H} {P : Program} {w : World} {held : Bool} {T : Tab}

theorem cell?_at {a : Addr} {v : Value} (h : w.cell? a = some v) : ∃ arr te fz, a.spot = none ∧ w.heap[a.block]? = some (.cells arr te fz) ∧ arr[a.off]? = some v := by
  unfold World.cell? at h
  split at h
  · rename_i c te fz hg
    split at h
    · cases h
    · rename_i hs
      exact ⟨c, te, fz, by simpa using hs, hg, h⟩
  · cases h

theorem add_block (a : Addr) (k : Nat) : (a.add k).block = a.block ∧ (a.add k).off = a.off + k := by
  unfold Addr.add
  split
  · rename_i h; subst h; exact ⟨rfl, rfl⟩
  · exact ⟨rfl, rfl⟩

theorem exists_list {α : Type} {R : Nat → α → Prop} : ∀ {n : Nat}, (∀ i, i < n → ∃ y, R i y) → ∃ l : List α, l.length = n ∧ ∀ i y, l[i]? = some y → R i y
  | 0, _ => ⟨[], rfl, fun i y h => by simp at h⟩
  | n + 1, h => by
    obtain ⟨l, hl, hr⟩ := exists_list (n := n) fun i hi => h i (by omega)
    obtain ⟨y, hy⟩ := h n (by omega)
    refine ⟨l ++ [y], by simp [hl], fun i z hz => ?_⟩
    rcases Nat.lt_or_ge i n with hlt | hge
    · rw [List.getElem?_append_left (by omega)] at hz; exact hr i z hz
    · rw [List.getElem?_append_right (by omega)] at hz
      have : i = n := by
        have := (List.getElem?_eq_some_iff.1 hz).1
        simp at this; omega
      subst this
      simp [hl] at hz
      subst hz
      exact hy

theorem fld_rep (ok : TabOK P T) {f : TypeId → Ty → Bool} {n : Nat} (hf : ∀ t τ cs x, f t τ = true → DataW.trod enc P w 0 (fun _ => true) held n t cs = some x → ∃ y : τ.D, Rep w.heap (fun c => c < w.heap.size) τ y cs) {cs : List Value} :
    ∀ (fs : List Field) (off : Nat) (τ : Ty), fldB T f off (fs.map fun f => (f.offset, f.type)) τ = true → (∀ g, g ∈ fs → ∃ x, DataW.trod enc P w 0 (fun _ => true) held n g.type ((cs.drop g.offset).take (P.cellsOf g.type)) = some x) →
      (cs.drop off).length = τ.size → ∃ y : τ.D, Rep w.heap (fun c => c < w.heap.size) τ y (cs.drop off)
  | [], off, τ, h, _, hl => by
    cases τ <;> simp [fldB] at h
    exact ⟨(), List.eq_nil_of_length_eq_zero hl⟩
  | g :: r, off, τ, h, hr, hl => by
    cases τ <;> simp only [List.map_cons, fldB, Bool.and_eq_true, Bool.false_eq_true] at h
    rename_i a b
    obtain ⟨⟨⟨h1, h2⟩, h3⟩, h4⟩ := h
    have h1 := Nat.eq_of_beq_eq_true h1
    have h2 := sizeIs_spec ok h2
    obtain ⟨x, hx⟩ := hr g (.head _)
    rw [h1, h2] at hx
    obtain ⟨y, hy⟩ := hf g.type a _ x h3 hx
    replace hl : (cs.drop off).length = a.size + b.size := hl
    obtain ⟨z, hz⟩ := fld_rep ok hf r (off + a.size) b h4 (fun g hg => hr g (.tail _ hg)) (by rw [← List.drop_drop, List.length_drop]; omega)
    refine ⟨(y, z), (cs.drop off).take a.size, cs.drop (off + a.size), ?_, hy, hz⟩
    rw [← List.drop_drop, List.take_append_drop]

theorem wf_float {k : FloatKind} {b : Nat} (h : (Lit.float k b).wf = true) : b < 2 ^ k.format.width := by
  cases k
  · have e : FloatKind.f32.format.width = 32 := rfl
    rw [e]; simpa [Lit.wf] using h
  · have e : FloatKind.f64.format.width = 64 := rfl
    rw [e]; simpa [Lit.wf] using h

/-- What an argument reads as is data. -/
theorem trod_rep (ok : TabOK P T) : ∀ (n : Nat) (t : TypeId) (τ : Ty), tyB T n t τ = true → ∀ (fuel : Nat) (cs : List Value) (x : DataW H × List MemPlace), DataW.trod enc P w 0 (fun _ => true) held fuel t cs = some x →
    ∃ y : τ.D, Rep w.heap (fun c => c < w.heap.size) τ y cs
  | 0, _, _, h => by cases h
  | n + 1, t, τ, h => by
    intro fuel cs x hx
    simp only [tyB] at h
    split at h
    · cases h
    · rename_i ti ht
      obtain ⟨d, hd, hu⟩ := (ok t ti ht).und
      split at h
      · rename_i k k' hui
        rw [hui] at hu
        cases hu
        have hk : k = k' := by simpa using h
        subst hk
        obtain ⟨m, rfl, _, hwf⟩ := DataW.trod_int hd hx
        simp only [Lit.wf, Bool.and_eq_true, decide_eq_true_eq] at hwf
        exact ⟨m, rfl, hwf⟩
      · rename_i k k' hui
        rw [hui] at hu
        cases hu
        have hk : k = k' := by simpa using h
        subst hk
        have hb : ∃ b, cs = [.float k b] ∧ b < 2 ^ k.format.width := by
          cases fuel with
          | zero => simp [DataW.trod] at hx
          | succ m =>
            unfold DataW.trod at hx
            rw [hd] at hx
            split at hx <;> simp_all
            obtain ⟨⟨rfl, hw⟩, _⟩ := hx
            exact wf_float hw
        obtain ⟨b, rfl, hlt⟩ := hb
        exact ⟨canon k b, b, rfl, FRel.mk' hlt⟩
      · rename_i hui
        rw [hui] at hu
        cases hu
        obtain ⟨b, rfl, _⟩ := DataW.trod_bool hd hx
        exact ⟨b, rfl⟩
      · rename_i hui
        rw [hui] at hu
        cases hu
        obtain ⟨s, rfl, _, hs⟩ := DataW.trod_string hd hx
        exact ⟨s, rfl, hs⟩
      · rename_i e τ' hui
        rw [hui] at hu
        cases hu
        simp only [Bool.and_eq_true] at h
        obtain ⟨⟨h1, h2⟩, h3⟩ := h
        have h1 := sizeIs_spec ok h1
        have h2 : 0 < τ'.size := by simpa [Nat.blt_eq] using h2
        rcases Deep.open_slice hd hx with ⟨rfl, _⟩ | ⟨a, len, cap, m, n', D, Pl, rfl, _, hlc, hcm, hm, _, hel⟩
        · exact ⟨[], by simp, none, 0, rfl, Nat.le_refl _, by simp, .inl rfl⟩
        · simp only [if_true] at hm
          rw [h1] at hel
          have each : ∀ i, i < len → ∃ y : τ'.D, ∃ cs', w.cells? 0 (a.add (i * τ'.size)) τ'.size = some cs' ∧ Rep w.heap (fun c => c < w.heap.size) τ' y cs' := fun i hi => by
            obtain ⟨cs', hc, ht'⟩ := hel i (by omega)
            obtain ⟨y, hy⟩ := trod_rep ok n e τ' h3 n' cs' _ ht'
            exact ⟨y, cs', hc, hy⟩
          obtain ⟨ys, hyl, hys⟩ := exists_list each
          have cellAt : ∀ i, i < len → ∀ cs', w.cells? 0 (a.add (i * τ'.size)) τ'.size = some cs' → ∀ j, j < τ'.size → ∃ v arr te fz, cs'[j]? = some v ∧ (a.add (i * τ'.size + j)).spot = none ∧ w.heap[a.block]? = some (.cells arr te fz) ∧ arr[a.off + (i * τ'.size + j)]? = some v := by
            intro i hi cs' hc j hj
            obtain ⟨_, hl, hcell⟩ := World.cells?_some hc
            have h5 := hcell j hj
            rw [Deep.add_add, List.getElem?_eq_getElem (by omega)] at h5
            obtain ⟨arr, te, fz, g1, g2, g3⟩ := cell?_at h5
            rw [(add_block a _).1] at g2
            rw [(add_block a _).2] at g3
            exact ⟨_, arr, te, fz, List.getElem?_eq_getElem (by omega), g1, g2, g3⟩
          refine ⟨ys, by rw [hyl]; omega, some a, cap, by rw [hyl], by omega, hcm, ?_⟩
          rcases Nat.eq_zero_or_pos len with h0 | hpos
          · left
            exact List.eq_nil_of_length_eq_zero (by omega)
          · right
            have hget : ∀ i, i < len → ∃ cs', w.cells? 0 (a.add (i * τ'.size)) τ'.size = some cs' := fun i hi => by
              obtain ⟨_, cs', hc, _⟩ := each i hi
              exact ⟨cs', hc⟩
            obtain ⟨c0, hc0⟩ := hget 0 hpos
            obtain ⟨v0, arr, te, fz, _, hsp, hg, _⟩ := cellAt 0 hpos c0 hc0 0 h2
            have hsp' : a.spot = none := by simpa [Addr.add] using hsp
            have same : ∀ arr' te' fz', w.heap[a.block]? = some (.cells arr' te' fz') → arr' = arr := fun arr' te' fz' hg' => by
              rw [hg] at hg'
              simp only [Option.some.injEq, Obj.cells.injEq] at hg'
              exact hg'.1.symm
            have hblt : a.block < w.heap.size := (Array.getElem?_eq_some_iff.1 hg).1
            have hsize : a.off + len * τ'.size ≤ arr.size := by
              obtain ⟨cl, hcl⟩ := hget (len - 1) (by omega)
              obtain ⟨v, arr', te', fz', _, _, hg', hv⟩ := cellAt (len - 1) (by omega) cl hcl (τ'.size - 1) (by omega)
              have := same arr' te' fz' hg'
              subst this
              have hlt := (Array.getElem?_eq_some_iff.1 hv).1
              have e1 : len * τ'.size = (len - 1) * τ'.size + τ'.size := by
                conv => lhs; rw [show len = len - 1 + 1 by omega]
                rw [Nat.add_mul, Nat.one_mul]
              omega
            refine ⟨a.block, a.off, arr, te, fz, ?_, hblt, hg, by rw [hyl]; exact hsize, fun i y hi => ?_⟩
            · cases a
              simp only at hsp'
              rw [hsp']
            · have hilt : i < len := by rw [← hyl]; exact (List.getElem?_eq_some_iff.1 hi).1
              obtain ⟨cs', hc, hr⟩ := hys i y hi
              have : win arr (a.off + i * τ'.size) τ'.size = cs' := by
                apply List.ext_getElem?
                intro j
                have hl' := (World.cells?_some hc).2.1
                rw [win_get]
                split
                · rename_i hj
                  obtain ⟨v, arr', te', fz', h6, _, hg', hv⟩ := cellAt i hilt cs' hc j hj
                  have := same arr' te' fz' hg'
                  subst this
                  rw [h6, ← hv, show a.off + i * τ'.size + j = a.off + (i * τ'.size + j) by omega]
                  simp
                · rw [List.getElem?_eq_none (by omega)]
              rw [this]; exact hr
      · rename_i τ _ _ fs hui
        rw [hui] at hu
        obtain ⟨l, rfl, hfs⟩ := hu
        simp only [Bool.and_eq_true] at h
        obtain ⟨h1, h2⟩ := h
        have h1 := Nat.eq_of_beq_eq_true h1
        obtain ⟨xs, m, rfl, rfl, hlen, hxl, hx⟩ := DataW.trod_struct hd hx
        have hcl : P.cellsOf t = τ.size := by
          obtain ⟨i, hi, hs, _⟩ := (ok t ti ht).info
          unfold Program.cellsOf
          rw [hi]
          simp only [Option.map_some, Option.getD_some]
          omega
        have := fld_rep (cs := cs) ok (n := m) (fun t τ cs x ht hx => trod_rep ok n t τ ht m cs x hx) l.toList 0 τ (by rw [hfs]; exact h2) (fun g hg => by
          obtain ⟨i, hi⟩ := List.getElem?_of_mem hg
          have hi' : l[i]? = some g := by simpa using hi
          have hilt : i < xs.length := by rw [hxl]; exact (Array.getElem?_eq_some_iff.1 hi').1
          exact ⟨xs[i], by rw [hx i g hi', List.getElem?_eq_getElem hilt]⟩) (by rw [List.drop_zero]; omega)
        simpa using this
      · cases h

/-! ### arguments -/
def roP : PTy → Bool
  | .ro _ _ => true
  | _ => false

/-- The parameters' types, as read-only data. -/
def parB (T : Tab) (n : Nat) : List TypeId → List PTy → Bool
  | [], [] => true
  | t :: ts, .ro ag τ :: ps => tyB T n t τ && (match T t with | some ti => ti.und.agg == ag | none => false) && parB T n ts ps
  | _, _ => false

theorem cellOk_one {r : Reach} {b0 : Nat} {t : TypeId} {v : Value} (h : Cell.okWide P w r b0 t v) : v.oneCell' = true := by
  cases v <;> first | rfl | (exfalso; unfold Cell.okWide Cell.ok at h; split at h <;> simp_all)

theorem args_rep (ok : TabOK P T) {n : Nat} : ∀ (ts : List TypeId) (ps : List PTy) (vs : List Value) (ds : List (DataW H)) (p : List MemPlace), parB T n ts ps = true → DataW.TrodAll enc P w 0 (fun _ => true) true ts vs ds p →
    (∀ (j : Nat) t v, ts[j]? = some t → vs[j]? = some v → ∃ r b0, Value.okWide P w r b0 t v) → ∃ xs : PD ps, ArgsRel w.heap (fun c => c < w.heap.size) ps xs vs (fun _ => False)
  | [], [], vs, ds, p, _, h, _ => by
    cases vs with
    | nil => exact ⟨(), rfl⟩
    | cons v vs => cases ds <;> cases h
  | [], _ :: _, _, _, _, h, _, _ => by cases h
  | _ :: _, [], _, _, _, h, _, _ => by cases h
  | t :: ts, q :: ps, vs, ds, p, h, ht, hv => by
    cases q <;> simp only [parB, Bool.and_eq_true, Bool.false_eq_true] at h
    rename_i ag τ
    obtain ⟨⟨h1, h2⟩, h3⟩ := h
    cases vs with
    | nil => cases ds <;> cases ht
    | cons v vs =>
      cases ds with
      | nil => cases ht
      | cons d ds =>
        obtain ⟨p1, p2, ⟨fuel, hd⟩, hrest, _⟩ := ht
        obtain ⟨y, hy⟩ := trod_rep ok n t τ h1 fuel _ _ hd
        obtain ⟨ys, hys⟩ := args_rep ok ts ps vs ds p2 h3 hrest fun j t' v' ht' hv' => hv (j + 1) t' v' (by simpa using ht') (by simpa using hv')
        refine ⟨(y, ys), v, vs, fun _ => False, fun _ => False, rfl, ?_, hys, fun _ h => h, fun _ h => h, fun _ h => h.elim⟩
        obtain ⟨r, b0, hok⟩ := hv 0 t v rfl rfl
        split at h2
        · rename_i ti hti
          obtain ⟨dsc, hdsc, hu⟩ := (ok t ti hti).und
          have hag : ti.und.agg = ag := by simpa using h2
          have hagd := undRel_agg hu
          unfold Value.okWide at hok
          rw [hdsc] at hok
          cases ag
          · have hone : v.oneCell' = true := by
              cases dsc <;> simp only [aggD] at hagd <;> first | exact cellOk_one hok | (rw [hag] at hagd; cases hagd)
            refine ⟨?_, hone⟩
            have : v.cells.toList = [v] := by cases v <;> simp [Value.oneCell'] at hone <;> rfl
            rw [this] at hy
            exact hy
          · have hagg : ∃ arr, v = .agg arr := by
              cases dsc <;> simp only [aggD] at hagd <;> first | (obtain ⟨cs, e, _⟩ := hok; exact ⟨cs, e⟩) | (rw [hag] at hagd; cases hagd)
            obtain ⟨arr, rfl⟩ := hagg
            exact ⟨arr, rfl, hy⟩
        · cases h2

theorem trodAll_below {W W' : World} (hl : laidOutB P = true) (hb : Below W.heap.size W W') : ∀ {ts : List TypeId} {vs : List Value} {ds : List (DataW H)} {ps : List MemPlace}, (∀ t, t ∈ ts → P.readableRec t = true ∧ t < P.types.size) →
    DataW.TrodAll enc P W 0 (fun _ => true) true ts vs ds ps → (∀ x ∈ ps, x.block < W.heap.size) → DataW.TrodAll enc P W' 0 (fun b => decide (b < W.heap.size)) true ts vs ds ps
  | [], vs, ds, ps, _, h, _ => by
    cases vs with
    | nil => cases ds with
      | nil => exact h
      | cons d ds => cases h
    | cons v vs => cases ds <;> cases h
  | t :: ts, vs, ds, ps, hr, h, hlt => by
    cases vs with
    | nil => cases ds <;> cases h
    | cons v vs =>
      cases ds with
      | nil => cases h
      | cons d ds =>
        obtain ⟨p, q, h1, h2, rfl⟩ := h
        obtain ⟨r1, r2⟩ := hr t (.head _)
        exact ⟨p, q, Below.trod hl r1 r2 h1 hb fun x hx => hlt x (by simp [hx]), trodAll_below hl hb (fun t ht => hr t (.tail _ ht)) h2 fun x hx => hlt x (by simp [hx]), rfl⟩

end open_

/-- What the variables hold that a function value has with it. -/
def okTs : (l : List Ty) → TysD l → Prop
  | [], _ => True
  | τ :: r, x => τ.ok x.1 ∧ okTs r x.2

theorem caps_ok {h : Heap} {S : Nat → Prop} : ∀ (l : List Ty) (x : TysD l) (vs : List Value), CapsRel h S l x vs → okTs l x
  | [], _, _, _ => trivial
  | τ :: r, x, vs, h => by
    obtain ⟨v, vr, rfl, ⟨_, _, _, _, _, _, _, _, _, h1⟩, h2⟩ := h
    exact ⟨Rep.ok τ _ _ h1, caps_ok r x.2 vr h2⟩

/-- The data keep within their bounds. -/
def okPs : (ps : List PTy) → PD ps → Prop
  | [], _ => True
  | .ro _ τ :: r, x => τ.ok x.1 ∧ okPs r x.2
  | .rptr τ :: r, x => τ.ok x.1 ∧ okPs r x.2
  | .fnc _ ts :: r, x => okTs ts x.1 ∧ okPs r x.2
  | .own _ τ :: r, x => τ.ok x.1 ∧ okPs r x.2
  | .optr _ :: r, x => okPs r x.2

theorem args_ok {h : Heap} {S : Nat → Prop} : ∀ (ps : List PTy) (xs : PD ps) (vs : List Value) (F : Nat → Prop), ArgsRel h S ps xs vs F → okPs ps xs
  | [], _, _, _, _ => trivial
  | .ro ag τ :: r, xs, vs, F, ha => by
    obtain ⟨v, vr, F1, F2, rfl, h1, h2, _⟩ := ha
    refine ⟨?_, args_ok r xs.2 vr F2 h2⟩
    cases ag
    · exact Rep.ok τ _ _ h1.1
    · obtain ⟨arr, _, h1⟩ := h1
      exact Rep.ok τ _ _ h1
  | .rptr τ :: r, xs, vs, F, ha => by
    obtain ⟨v, vr, F1, F2, rfl, ⟨_, _, _, _, _, _, _, _, _, h1⟩, h2, _⟩ := ha
    exact ⟨Rep.ok τ _ _ h1, args_ok r xs.2 vr F2 h2⟩
  | .fnc _ ts :: r, xs, vs, F, ha => by
    obtain ⟨v, vr, F1, F2, rfl, ⟨_, _, h1⟩, h2, _⟩ := ha
    exact ⟨caps_ok ts _ _ h1, args_ok r xs.2 vr F2 h2⟩
  | .own ag τ :: r, xs, vs, F, ha => by
    obtain ⟨v, vr, F1, F2, rfl, h1, h2, _⟩ := ha
    refine ⟨?_, args_ok r xs.2 vr F2 h2⟩
    cases ag
    · exact Own.ok τ _ _ _ h1.1
    · obtain ⟨arr, _, h1⟩ := h1
      exact Own.ok τ _ _ _ h1
  | .optr _ :: r, xs, vs, F, ha => by obtain ⟨v, vr, F1, F2, rfl, h1, h2, _⟩ := ha; exact args_ok r xs.2 vr F2 h2

theorem parB_ro {T : Tab} {n : Nat} : ∀ {ts : List TypeId} {ps : List PTy}, parB T n ts ps = true → roOnly ps = true ∧ ps.length = ts.length
  | [], [], _ => ⟨rfl, rfl⟩
  | [], _ :: _, h => by cases h
  | _ :: _, [], h => by cases h
  | t :: ts, q :: ps, h => by
    cases q <;> simp only [parB, Bool.and_eq_true, Bool.false_eq_true] at h
    obtain ⟨h1, h2⟩ := parB_ro h.2
    exact ⟨h1, by simp [h2]⟩

/-- **A law's call**: it answers true, and its arguments read as they did. -/
theorem law_calls {P : Program} {E : Tabs} (ok : EnvOK P E) (laid : laidOutB P = true) {k : FuncId} {fn : Func} {c : Code} {L : Nat → Option LP} {ps : List PTy} {spec : ChangeSpec} {H : Type} {enc : TypeId × Value → H} {n : Nat} {tb : TypeId}
    (hf : P.funcs[k]? = some fn) (hbody : fn.body = some c) (hpar : parB E.T n fn.params.toList ps = true) (hsz : ps.length ≤ fn.ntmps) (hL : LoopsOK E L fn.ntmps c) (hvars : spec.vars = [])
    (hspec : ∀ ds : List (DataW H), ds.length = ps.length → spec.fn H ds = { results := [.lit (.bool true)], args := ds }) (hres : fn.resultTypes = #[tb]) (htb : P.underlying tb = some .bool)
    (hread : fn.params.toList.all (fun t => P.readableRec t && decide (t < P.types.size)) = true) (heval : ∀ ds : PD ps, okPs ps ds → evalF E L fn ps (.one false .bool) ds = some true)
    {W : World} {base : Nat} {args : Array Value} {ds gs : List (DataW H)} {before : List MemPlace} (hval : ∀ (j : Nat) t v, fn.params[j]? = some t → args[j]? = some v → Value.okWide P W .any base t v)
    (hW : DataW.Whole enc P fn.params.toList spec.vars false W args.toList ds gs before) : Calls P k args W fun e W' => ∃ v, e = .returned v ∧ spec.post enc P fn false true false false W args v W' := by
  have hW' := hW
  have hlt := hW.lt
  obtain ⟨p, q, hA, hV, rfl, _, _⟩ := hW
  rw [hvars] at hV
  have hgs : gs = [] ∧ q = [] := by
    cases gs with
    | nil => exact ⟨rfl, hV⟩
    | cons g gs => cases hV
  obtain ⟨rfl, rfl⟩ := hgs
  obtain ⟨xs, hxs⟩ := args_rep ok.tab _ _ _ _ _ hpar hA fun j t v ht hv => ⟨.any, base, hval j t v (by simpa using ht) (by simpa using hv)⟩
  obtain ⟨hro, hpl⟩ := parB_ro hpar
  have := calls_of_eval (fm := { ps := ps, res := .one false .bool, run := fun _ => none }) ok hf hbody hro rfl hsz hL hxs (heval xs (args_ok ps xs _ _ hxs))
  refine Calls.mono (by simpa using this) ?_
  rintro e W' ⟨v, rfl, hext, F, ⟨cs, _, hcs, hown⟩, _⟩
  have hv : v = .bool true := by
    have h1 := hcs rfl
    subst h1
    have h2 : [v] = [.bool true] := hown
    simpa using h2
  subst hv
  have hb : Below W.heap.size W W' := ⟨hext.os, hext.tape, hext.output, hext.size, hext.heap⟩
  have hlen : ds.length = ps.length := by
    have : ∀ {ts : List TypeId} {vs : List Value} {ds : List (DataW H)} {ps : List MemPlace}, DataW.TrodAll enc P W 0 (fun _ => true) true ts vs ds ps → ds.length = ts.length := by
      intro ts
      induction ts with
      | nil => intro vs ds ps h; cases vs <;> cases ds <;> first | rfl | cases h
      | cons t ts ih =>
        intro vs ds ps h
        cases vs with
        | nil => cases ds <;> cases h
        | cons v vs =>
          cases ds with
          | nil => cases h
          | cons d ds =>
            obtain ⟨_, _, _, h2, _⟩ := h
            simp [ih h2]
    rw [hpl]; exact this hA
  have hfn : spec.fn H (ds ++ []) = { results := [.lit (.bool true)], args := ds } := by rw [List.append_nil]; exact hspec ds hlen
  refine ⟨.bool true, rfl, ds, [], p ++ [], [], p, [], hW', ?_, ?_, ?_, hb.frame _, fun h => by cases h⟩
  · rw [hfn, hres]
    exact ⟨[], [], ⟨1, by simp [DataW.trod, htb, Value.cells]⟩, rfl, rfl⟩
  · rw [hfn]
    refine trodAll_below laid hb (fun t ht => ?_) hA fun x hx => hlt x (by simp [hx])
    have := List.all_eq_true.1 hread t ht
    simpa using this
  · rw [hfn, hvars]
    rfl
end Go.Fw
