/- What it means that an operation changes nothing that was there; the first operations of that kind. No condition. -/
import Derived.Test.YtcbpdhhipkdofaaFwConv
import Derived.WalkLawsBesides
namespace Go.Fw

structure Ext (w w' : World) : Prop where
  size : w.heap.size ≤ w'.heap.size
  heap : ∀ c, c < w.heap.size → w'.heap[c]? = w.heap[c]?
  os : w'.os = w.os
  tape : w'.tape = w.tape
  output : w'.output = w.output

theorem Ext.refl (w : World) : Ext w w := ⟨Nat.le_refl _, fun _ _ => rfl, rfl, rfl, rfl⟩
theorem Ext.trans {a b c : World} (h : Ext a b) (k : Ext b c) : Ext a c :=
  ⟨Nat.le_trans h.size k.size, fun i hi => (k.heap i (Nat.lt_of_lt_of_le hi h.size)).trans (h.heap i hi), k.os.trans h.os, k.tape.trans h.tape, k.output.trans h.output⟩
theorem Ext.draw (w : World) (n : Nat) : Ext w { w with drawn := n } := ⟨Nat.le_refl _, fun _ _ => rfl, rfl, rfl, rfl⟩
theorem Ext.alloc (w : World) (o : Obj) : Ext w (w.alloc o) := ⟨by show _ ≤ (w.heap.push o).size; simp, fun c hc => heap_alloc_old w o hc, rfl, rfl, rfl⟩

/-- A value and new blocks, behind a world w. -/
def Fresh (S : Nat → Prop) (m : Nat → Nat) (H : Nat → Value) (F : Nat → Nat → Prop) (loc : List Blk) (w w' : World) (v : FV) (v' : Value) (bs : List Blk) (m' : Nat → Nat) (H' : Nat → Value) (F' : Nat → Nat → Prop) : Prop :=
  (∀ b, b < loc.length → m' b = m b ∧ H' b = H b ∧ F' b = F b) ∧
  fvRel ⟨w'.heap, S, m', H', F', loc ++ bs⟩ v v' ∧
  (∀ j k, bs[j]? = some k → blkRel ⟨w'.heap, S, m', H', F', loc ++ bs⟩ (loc.length + j) k ∧ ∀ c, F' (loc.length + j) c → w.heap.size ≤ c ∧ c < w'.heap.size) ∧
  (∀ j j', j ≠ j' → j < bs.length → j' < bs.length → ∀ c, F' (loc.length + j) c → ¬ F' (loc.length + j') c) ∧
  ∀ (j : Nat) (τ : Ty) (xs : List τ.D), bs[j]? = some (Blk.row true τ xs) → False

/-- The operation yields v and makes the blocks bs, in every machine state that the interpreter's stands for. -/
def PureOK (P : Program) (o : Oper) (st : St) (v : FV) (bs : List Blk) : Prop :=
  ∀ w0 S m H F a w, Rel w0 S m H F st a w → ∀ (next : Act → World → Prop) (Q : Exit → Act → World → Prop),
    (∀ v' w' m' H' F', Ext w w' → Fresh S m H F st.loc w w' v v' bs m' H' F' → next (a.put o.dst v') w') → o.wp P a w next Q

theorem Moves.ext {S : Nat → Prop} {m m' : Nat → Nat} {H H' : Nat → Value} {F F' : Nat → Nat → Prop} {loc l : List Blk} {w w' : World}
    (hS : ∀ c, S c → c < w.heap.size) (hF : ∀ b k, loc[b]? = some k → k.alive = true → ∀ c, F b c → c < w.heap.size) (he : Ext w w')
    (hm : ∀ b, b < loc.length → m' b = m b ∧ H' b = H b ∧ F' b = F b) : Moves ⟨w.heap, S, m, H, F, loc⟩ ⟨w'.heap, S, m', H', F', loc ++ l⟩ [] [] := by
  have lt : ∀ b (k : Blk), loc[b]? = some k → b < loc.length := fun b k hk => (List.getElem?_eq_some_iff.1 hk).1
  refine ⟨fun _ h => h, fun c hc => he.heap c (hS c hc), fun b cs _ hb => ⟨(hm b (lt b _ hb)).1, cs, ?_⟩, fun b pin τ xs _ hb => ⟨(hm b (lt b _ hb)).1, (hm b (lt b _ hb)).2.1, pin, xs, ?_, rfl⟩, fun b pin τ xs _ _ hb _ => ⟨fun c hc => ?_, fun c hc => he.heap c (hF b _ hb rfl c hc)⟩⟩
  · exact (getElem?_append_lt (lt b _ hb)).trans hb
  · exact (getElem?_append_lt (lt b _ hb)).trans hb
  · show F' b c
    rw [(hm b (lt b _ hb)).2.2]; exact hc

section
variable {P : Program} {w0 : W0} {w w' : World} {S : Nat → Prop} {m m' : Nat → Nat} {H H' : Nat → Value} {F F' : Nat → Nat → Prop} {st : St} {a : Act}

theorem Rel.S_lt (h : Rel w0 S m H F st a w) : ∀ c, S c → c < w.heap.size := fun c hc => Nat.lt_of_lt_of_le (h.stab c hc).1 h.grow
theorem Rel.F_lt (h : Rel w0 S m H F st a w) : ∀ b k, st.loc[b]? = some k → k.alive = true → ∀ c, F b c → c < w.heap.size := fun b k hk ha c hc => (h.own b k hk ha c hc).1

theorem getD_put_same (a : Act) (d : Nat) (v u : Value) (h : d < a.tmps.size) : (a.put (some d) v).tmps.getD d u = v := by
  simp [Act.put, h]
theorem getD_put_ne (a : Act) (d t : Nat) (v u : Value) (h : d ≠ t) : (a.put (some d) v).tmps.getD t u = a.tmps.getD t u := by
  simp [Act.put, Array.getElem?_setIfInBounds_ne h]

theorem Rel.bind (h : Rel w0 S m H F st a w) (he : Ext w w') {dst : Option Tmp} {v : FV} {v' : Value} {bs : List Blk} (hd : dstOk st.n dst = true)
    (hf : Fresh S m H F st.loc w w' v v' bs m' H' F') : Rel w0 S m' H' F' (st.bind dst v bs) (a.put dst v') w' := by
  obtain ⟨f1, f2, f3, f4, f5⟩ := hf
  have M : Moves ⟨w.heap, S, m, H, F, st.loc⟩ ⟨w'.heap, S, m', H', F', st.loc ++ bs⟩ [] [] := Moves.ext h.S_lt h.F_lt he f1
  have hsz : (a.put dst v').tmps.size = a.tmps.size := by cases dst <;> simp [Act.put]
  have old : ∀ t, fvRel ⟨w'.heap, S, m', H', F', st.loc ++ bs⟩ (look st.fr t) (a.tmps.getD t undef) := fun t => (h.fr t).same M
  have new : ∀ b k, (st.loc ++ bs)[b]? = some k → b < st.loc.length ∧ st.loc[b]? = some k ∨ ∃ j, b = st.loc.length + j ∧ bs[j]? = some k := by
    intro b k hk
    rcases Nat.lt_or_ge b st.loc.length with hlt | hge
    · rw [getElem?_append_lt hlt] at hk; exact .inl ⟨hlt, hk⟩
    · rw [List.getElem?_append_right hge] at hk; exact .inr ⟨b - st.loc.length, by omega, hk⟩
  refine ⟨hsz.trans h.size, by cases dst <;> exact h.defers, ?_, ?_, ?_, ?_, ?_, Nat.le_trans h.grow he.size, he.os.trans h.os, he.tape.trans h.tape, he.output.trans h.output, ?_⟩
  · intro t
    cases dst with
    | none => exact old t
    | some d =>
      have hlt : d < a.tmps.size := by rw [h.size]; simpa [dstOk, Nat.blt_eq] using hd
      show fvRel _ (look ((d, v) :: st.fr) t) _
      simp only [look]
      cases hb : Nat.beq d t
      · have hne : d ≠ t := fun e => by subst e; simp at hb
        rw [getD_put_ne a d t v' undef hne]
        exact old t
      · have he : d = t := Nat.eq_of_beq_eq_true hb
        subst he
        rw [getD_put_same a d v' undef hlt]
        exact f2
  · intro b k hk
    rcases new b k hk with ⟨hlt, hk'⟩ | ⟨j, rfl, hj⟩
    · cases hal : k.alive
      · cases k <;> simp [Blk.alive] at hal; trivial
      · exact (h.blk b k hk').same M (f1 b hlt) (fun c hc => he.heap c (h.F_lt b k hk' hal c hc))
    · exact (f3 j k hj).1
  · intro b k hk hal c hc
    rcases new b k hk with ⟨hlt, hk'⟩ | ⟨j, rfl, hj⟩
    · rw [(f1 b hlt).2.2] at hc
      exact ⟨Nat.lt_of_lt_of_le (h.F_lt b k hk' hal c hc) he.size, (h.own b k hk' hal c hc).2⟩
    · have := (f3 j k hj).2 c hc
      exact ⟨this.2, fun hs => by have := h.S_lt c hs; omega⟩
  · intro b b' k k' hk hk' ha ha' hne c hc hc'
    rcases new b k hk with ⟨hlt, hk1⟩ | ⟨j, rfl, hj⟩ <;> rcases new b' k' hk' with ⟨hlt', hk1'⟩ | ⟨j', rfl, hj'⟩
    · rw [(f1 b hlt).2.2] at hc
      rw [(f1 b' hlt').2.2] at hc'
      exact h.disj b b' k k' hk1 hk1' ha ha' hne c hc hc'
    · rw [(f1 b hlt).2.2] at hc
      have h1 := h.F_lt b k hk1 ha c hc
      have h2 := (f3 j' k' hj').2 c hc'
      omega
    · rw [(f1 b' hlt').2.2] at hc'
      have h1 := h.F_lt b' k' hk1' ha' c hc'
      have h2 := (f3 j k hj).2 c hc
      omega
    · exact f4 j j' (by omega) (List.getElem?_eq_some_iff.1 hj).1 (List.getElem?_eq_some_iff.1 hj').1 c hc hc'
  · intro c hc
    exact ⟨(h.stab c hc).1, (he.heap c (h.S_lt c hc)).trans (h.stab c hc).2⟩
  · intro b τ xs hb
    rcases new b _ hb with ⟨hlt, hk⟩ | ⟨j, rfl, hj⟩
    · exact (f1 b hlt).2.1.trans (h.pin b τ xs hk)
    · exact (f5 j τ xs hj).elim
end

/-! ### operands -/
theorem constC_rel {Γ : Ctx} {v : Value} {c : C} (h : constC v = some c) : cRel Γ c v := by
  unfold constC at h
  split at h
  · rename_i k n
    cases hb : decide (k.min ≤ n) && decide (n ≤ k.max) <;> rw [hb] at h <;> simp at h
    subst h
    simp at hb
    exact ⟨rfl, hb⟩
  · cases h; rfl
  · rename_i k b
    cases hb : Nat.blt b (2 ^ k.format.width) <;> rw [hb] at h <;> simp at h
    subst h
    exact ⟨b, rfl, FRel.mk' (by simpa [Nat.blt_eq] using hb)⟩
  · rename_i s
    cases hb : Nat.blt s.size 4294967296 <;> rw [hb] at h <;> simp at h
    subst h
    refine ⟨rfl, ?_⟩
    simp [Nat.blt_eq] at hb
    simp [maxLen]; omega
  · cases h; rfl
  · cases h; exact ⟨none, rfl⟩
  · cases h

theorem constCs_rel {Γ : Ctx} : ∀ {vs : List Value} {cs : List C}, constCs vs = some cs → All2 (cRel Γ) cs vs
  | [], cs, h => by cases h; exact .nil
  | v :: r, cs, h => by
    simp only [constCs] at h
    split at h
    · rename_i c l hc hl
      cases h
      exact .cons (constC_rel hc) (constCs_rel hl)
    · cases h

theorem constV_rel {Γ : Ctx} (v : Value) : fvRel Γ (constV v) v := by
  unfold constV
  split
  · rename_i arr
    split
    · rename_i l hl
      exact ⟨arr, rfl, constCs_rel hl⟩
    · trivial
  · split
    · rename_i c hc
      exact constC_rel hc
    · trivial

theorem ev_rel {w0 : W0} {w : World} {S : Nat → Prop} {m : Nat → Nat} {H : Nat → Value} {F : Nat → Nat → Prop} {st : St} {a : Act} (h : Rel w0 S m H F st a w) (x : Operand) :
    fvRel ⟨w.heap, S, m, H, F, st.loc⟩ (st.ev x) (a.eval x) := by
  cases x with
  | tmp t => exact h.fr t
  | const v => exact constV_rel v
  | global g => trivial
  | func f => exact ⟨#[], rfl, .nil⟩

theorem cells_rel {Γ : Ctx} {x : FV} {cs : List C} {v : Value} (h : x.cells = some cs) (hr : fvRel Γ x v) (hb : ∀ b pin τ xs, Γ.loc[b]? = some (.row pin τ xs) → ∃ base cap, Γ.H b = .slice base xs.length cap) :
    All2 (cRel Γ) cs v.cells.toList := by
  unfold FV.cells at h
  split at h
  · rename_i c
    cases h
    have h1 := cRel.one hb hr
    have : v.cells = #[v] := by cases v <;> simp [Value.oneCell'] at h1 <;> rfl
    rw [this]
    exact .cons hr .nil
  · cases h
    obtain ⟨arr, rfl, ha⟩ := hr
    exact ha
  · cases h

/-- An operation that computes a value. -/
theorem PureOK.val {P : Program} {o : Oper} {st : St} {v : FV}
    (h : ∀ w0 S m H F a w, Rel w0 S m H F st a w → ∃ v' n, (execOp a.eval o).run P w = .ok (.value v') { w with drawn := n } ∧ fvRel ⟨w.heap, S, m, H, F, st.loc⟩ v v') : PureOK P o st v [] := by
  intro w0 S m H F a w hr next Q hn
  obtain ⟨v', n, hrun, hv⟩ := h w0 S m H F a w hr
  unfold Oper.wp
  rw [hrun, Oper.upon_value]
  exact hn v' _ m H F (Ext.draw w n) ⟨fun _ _ => ⟨rfl, rfl, rfl⟩, by rw [List.append_nil]; exact hv, fun j k hj => by simp at hj, fun j j' _ hj => by simp at hj, fun j τ xs hj => by simp at hj⟩

/-- The same, in the very world. -/
theorem PureOK.val0 {P : Program} {o : Oper} {st : St} {v : FV}
    (h : ∀ w0 S m H F a w, Rel w0 S m H F st a w → ∃ v', (execOp a.eval o).run P w = .ok (.value v') w ∧ fvRel ⟨w.heap, S, m, H, F, st.loc⟩ v v') : PureOK P o st v [] :=
  PureOK.val fun w0 S m H F a w hr => let ⟨v', h1, h2⟩ := h w0 S m H F a w hr; ⟨v', w.drawn, h1, h2⟩

/-! ### what the tables must say -/
def constRel (c : C) (v : Value) : Prop := ∀ Γ, cRel Γ c v

def aggD : TypeDesc → Bool
  | .struct _ => true
  | .array _ _ => true
  | _ => false

def undRel : Und → TypeDesc → Prop
  | .int k, d => d = .int k
  | .flt k, d => d = .float k
  | .bool, d => d = .bool
  | .str, d => d = .string
  | .slice e, d => d = .slice e
  | .array n e, d => d = .array n e
  | .struct fs, d => ∃ l, d = .struct l ∧ l.toList.map (fun f => (f.offset, f.type)) = fs
  | .other, d => aggD d = false

structure TIOK (P : Program) (t : TypeId) (ti : TI) : Prop where
  info : ∃ i, P.info? t = some i ∧ i.size = ti.size ∧ i.bytes = ti.bytes ∧ ∃ z, i.zero = some z ∧ All2 constRel ti.zero z.cells.toList
  und : ∃ d, P.underlying t = some d ∧ undRel ti.und d

def TabOK (P : Program) (T : Tab) : Prop := ∀ t ti, T t = some ti → TIOK P t ti

theorem undRel_agg {u : Und} {d : TypeDesc} (h : undRel u d) : aggD d = u.agg := by
  cases u <;> first | (cases h; rfl) | (obtain ⟨l, rfl, _⟩ := h; rfl) | exact h

section runs
variable {P : Program} {t : TypeId} {ti : TI} (ok : TIOK P t ti) (w : World)

theorem TIOK.sizeOf (ok : TIOK P t ti) (w : World) : (sizeOf t).run P w = .ok ti.size w := by
  obtain ⟨i, hi, hs, _⟩ := ok.info
  simp [Go.sizeOf, typeInfo, hi, hs]

theorem TIOK.isAgg (ok : TIOK P t ti) (w : World) : (isAgg t).run P w = .ok ti.und.agg w := by
  obtain ⟨d, hd, hu⟩ := ok.und
  rw [← undRel_agg hu]
  unfold Go.isAgg
  rw [Sem.run_bind, run_underlying hd w]
  cases d <;> rfl

theorem TIOK.zero (ok : TIOK P t ti) (w : World) : ∃ z, (zeroValue t).run P w = .ok z w ∧ All2 constRel ti.zero z.cells.toList := by
  obtain ⟨i, hi, hs, _, z, hz, ha⟩ := ok.info
  exact ⟨z, by simp [zeroValue, typeInfo, hi, hz], ha⟩
end runs

theorem Addr.add_plain (c o n : Nat) : (⟨c, o, none⟩ : Addr).add n = ⟨c, o + n, none⟩ := by
  unfold Addr.add
  split <;> simp_all

theorem run_loadCells_win {P : Program} {w : World} {c off n : Nat} {arr : Array Value} {te : TypeId} {fz : Nat × Nat} (hg : w.heap[c]? = some (.cells arr te fz)) (hb : off + n ≤ arr.size) :
    (loadCells ⟨c, off, none⟩ n).run P w = .ok (win arr off n).toArray w := by
  have hl := win_length hb
  have := run_loadCells_list (P := P) w ⟨c, off, none⟩ (win arr off n) (fun j v hv => by
    rw [Addr.add_plain, cell_of_row w c _ arr te fz hg]
    unfold win at hv
    rw [List.getElem?_take] at hv
    split at hv
    · rw [List.getElem?_drop] at hv
      simpa using hv
    · cases hv)
  rwa [hl] at this

theorem run_loadVar_win {P : Program} {w : World} {t : TypeId} {ti : TI} (ok : TIOK P t ti) {c off : Nat} {arr : Array Value} {te : TypeId} {fz : Nat × Nat}
    (hg : w.heap[c]? = some (.cells arr te fz)) (hb : off + ti.size ≤ arr.size) (h1 : ti.und.agg = true ∨ ti.size = 1) :
    ∃ v, (loadVar t ⟨c, off, none⟩).run P w = .ok v w ∧ (ti.und.agg = true → v = .agg (win arr off ti.size).toArray) ∧ (ti.und.agg = false → win arr off ti.size = [v]) := by
  unfold loadVar
  cases hag : ti.und.agg
  · have hs : ti.size = 1 := by simpa [hag] using h1
    rw [hs] at hb
    have hlt : off < arr.size := by omega
    refine ⟨arr[off], ?_, fun h => by simp at h, fun _ => ?_⟩
    · simp only [Sem.run_bind, ok.isAgg, hag, Result.andThen_ok, if_false, Bool.false_eq_true, run_load, cell_of_row w c off arr te fz hg]
      simp [hlt]
    · rw [hs]
      unfold win
      rw [List.drop_eq_getElem_cons (by simpa using hlt)]
      simp
  · refine ⟨.agg (win arr off ti.size).toArray, ?_, fun _ => rfl, fun h => by simp at h⟩
    simp only [Sem.run_bind, ok.isAgg, hag, Result.andThen_ok, if_true, ok.sizeOf, run_loadCells_win hg hb, Sem.run_pure]

theorem wrapV_rel {Γ : Ctx} {ag : Bool} {cs : List C} {v : Value} {l : List Value} (ha : All2 (cRel Γ) cs l) (h1 : ag = true → v = .agg l.toArray) (h2 : ag = false → l = [v]) : fvRel Γ (wrapV ag cs) v := by
  cases ag
  · have := h2 rfl
    subst this
    cases ha with
    | cons h t => cases t; exact h
  · exact ⟨l.toArray, h1 rfl, ha⟩

end Go.Fw
