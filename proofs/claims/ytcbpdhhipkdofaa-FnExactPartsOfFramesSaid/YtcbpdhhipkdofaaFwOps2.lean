/- The operations that make blocks, and those that look into memory: what the interpreter says of them is what the machine does. No condition. -/
import Derived.Test.YtcbpdhhipkdofaaFwOps
namespace Go.Fw

section
variable {P : Program} {o : Oper} {st : St} {R : Type} {r : R}

theorem World.alloc_size (w : World) (b : Obj) : (w.alloc b).heap.size = w.heap.size + 1 := by
  show (w.heap.push b).size = _; simp

/-- A new variable. -/
theorem PureOK.new {cs : List C}
    (h : ∀ w0 S m H F a w, Rel w0 S m H F st a w → ∃ arr te, (execOp a.eval o).run P w = .ok (.value (.pointer (some ⟨w.heap.size, 0, none⟩))) (w.alloc (.cells arr te)) ∧
      All2 (cRel ⟨w.heap, S, m, H, F, st.loc⟩) cs arr.toList) : PureOK P o st (.v (.one (.ptr (.box st.loc.length 0)))) [.box cs] := by
  intro w0 S m H F a w hr next Q hn
  obtain ⟨arr, te, hrun, ha⟩ := h w0 S m H F a w hr
  unfold Oper.wp
  rw [hrun, Oper.upon_value]
  have hm : ∀ b, b < st.loc.length → (fun b => if b = st.loc.length then w.heap.size else m b) b = m b ∧ H b = H b ∧ (fun b => if b = st.loc.length then (fun c => c = w.heap.size) else F b) b = F b :=
    fun b hb => by simp [Nat.ne_of_lt hb]
  have M := Moves.ext (S := S) (m := m) (H := H) (F := F) (l := [Blk.box cs]) hr.S_lt hr.F_lt (Ext.alloc w (.cells arr te)) hm
  refine hn _ _ (fun b => if b = st.loc.length then w.heap.size else m b) H (fun b => if b = st.loc.length then (fun c => c = w.heap.size) else F b) (Ext.alloc w _) ⟨hm, ?_, ?_, ?_, fun j σ ys hj => by cases j <;> simp at hj⟩
  · exact ⟨by simp, cs, by simp⟩
  · intro j k hj
    cases j with
    | succ j => simp at hj
    | zero =>
      simp at hj
      subst hj
      simp only [Nat.add_zero]
      refine ⟨⟨arr, te, ?_, ha.imp fun _ _ h => h.same M, by simp⟩, fun c hc => ?_⟩
      · simp only [if_true]
        exact heap_alloc_new w _
      · simp only [if_true] at hc
        subst hc
        rw [World.alloc_size]; omega
  · intro j j' hne hj hj'
    simp at hj hj'
    omega

/-- A new row. -/
theorem PureOK.newRow {τ : Ty} {xs : List τ.D}
    (h : ∀ w0 S m H F a w, Rel w0 S m H F st a w → ∃ arr te cap, (execOp a.eval o).run P w = .ok (.value (.slice (some ⟨w.heap.size, 0, none⟩) xs.length cap)) (w.alloc (.cells arr te)) ∧
      arr.size = cap * τ.size ∧ xs.length ≤ cap ∧ cap ≤ maxLen ∧ ∀ i x, xs[i]? = some x → Own w.heap S τ x (win arr (i * τ.size) τ.size) (fun _ => False)) :
    PureOK P o st (.v (.one (.sl (.row st.loc.length)))) [.row false τ xs] := by
  intro w0 S m H F a w hr next Q hn
  obtain ⟨arr, te, cap, hrun, hsz, hle, hcm, hx⟩ := h w0 S m H F a w hr
  unfold Oper.wp
  rw [hrun, Oper.upon_value]
  have hm : ∀ b, b < st.loc.length → (fun b => if b = st.loc.length then w.heap.size else m b) b = m b ∧ (fun b => if b = st.loc.length then Value.slice (some ⟨w.heap.size, 0, none⟩) xs.length cap else H b) b = H b ∧
      (fun b => if b = st.loc.length then (fun c => c = w.heap.size) else F b) b = F b := fun b hb => by simp [Nat.ne_of_lt hb]
  refine hn _ _ (fun b => if b = st.loc.length then w.heap.size else m b) (fun b => if b = st.loc.length then Value.slice (some ⟨w.heap.size, 0, none⟩) xs.length cap else H b)
    (fun b => if b = st.loc.length then (fun c => c = w.heap.size) else F b) (Ext.alloc w _) ⟨hm, ?_, ?_, ?_, fun j σ ys hj => by cases j <;> simp at hj⟩
  · exact ⟨by simp, false, τ, xs, by simp⟩
  · intro j k hj
    cases j with
    | succ j => simp at hj
    | zero =>
      simp at hj
      subst hj
      simp only [Nat.add_zero]
      refine ⟨⟨?_, some ⟨w.heap.size, 0, none⟩, cap, by simp, .inr (by simp)⟩, fun c hc => ?_⟩
      · simp only [if_true]
        refine ⟨by omega, _, cap, rfl, hle, hcm, .inr ⟨w.heap.size, arr, te, rfl, rfl, heap_alloc_new w _, hsz, fun _ _ => False, fun _ _ _ h => h.elim, fun _ _ h => h.elim, fun i x hi => ?_⟩⟩
        exact Own.mono (fun _ h => h) (fun c hc => (Ext.alloc w _).heap c (hr.S_lt c hc)) _ _ _ _ _ (fun _ h => h) (fun _ h => h.elim) (hx i x hi)
      · simp only [if_true] at hc
        subst hc
        rw [World.alloc_size]; omega
  · intro j j' hne hj hj'
    simp at hj hj'
    omega

theorem run_newRow (w : World) (t : TypeId) (cells : Array Value) : (Go.newRow t cells).run P w = .ok ⟨w.heap.size, 0, none⟩ (w.alloc (.cells cells t)) := by
  simp only [Go.newRow, Sem.run_bind, run_newObj, Result.andThen_ok, Sem.run_pure]
  rfl

theorem ok_box {t : TypeId} {x : Operand} {cs : List C} (ho : o.op = .box t x) (hx : (st.ev x).cells = some cs) : PureOK P o st (.v (.one (.ptr (.box st.loc.length 0)))) [.box cs] :=
  .new fun w0 S m H F a w hr => ⟨(a.eval x).cells, t, by unfold execOp; simp only [ho, Instr.box, newVar, Sem.run_bind, run_newRow, Result.andThen_ok, Sem.run_pure], cells_rel hx (ev_rel hr x) hr.hdr⟩

theorem ok_alloc {t : TypeId} {ti : TI} (ok : TIOK P t ti) (ho : o.op = .alloc t) : PureOK P o st (.v (.one (.ptr (.box st.loc.length 0)))) [.box ti.zero] :=
  .new fun w0 S m H F a w hr => by
    obtain ⟨z, hz, ha⟩ := ok.zero (P := P) w
    refine ⟨z.cells, t, ?_, ha.imp fun _ _ h => h _⟩
    unfold execOp
    simp only [ho, Instr.alloc, newVar, Sem.run_bind, hz, run_newRow, Result.andThen_ok, Sem.run_pure]

theorem ok_load {t : TypeId} {ti : TI} {x : Operand} {p : Place} {cs : List C} (ok : TIOK P t ti) (ho : o.op = .load t x) (hx : st.ev x = .v (.one (.ptr p))) (hl : loadC st.loc ti.size p = some cs)
    (h1 : (ti.und.agg || Nat.beq ti.size 1) = true) : PureOK P o st (wrapV ti.und.agg cs) [] :=
  .val0 fun w0 S m H F a w hr => by
    have hp : plRel ⟨w.heap, S, m, H, F, st.loc⟩ p (a.eval x) := by
      have := ev_rel hr x
      rw [hx] at this
      exact this
    obtain ⟨c, off, arr, te, fz, ev, hg, hb, ha⟩ := loadC_rel (Γ := ⟨w.heap, S, m, H, F, st.loc⟩) hr.blk hl hp
    obtain ⟨v, hrun, hv1, hv2⟩ := run_loadVar_win ok (off := off) hg hb (by simpa using h1)
    refine ⟨v, ?_, wrapV_rel ha hv1 hv2⟩
    unfold execOp
    simp only [ho, ev, Instr.loadAt, Instr.sureAddr, Sem.run_bind, Sem.run_pure, Result.andThen_ok, hrun]

theorem ok_nilCheck_ptr {x : Operand} {p : Place} (ho : o.op = .nilCheck x) (hx : st.ev x = .v (.one (.ptr p))) : PureOK P o st (.v (.one (.ptr p))) [] :=
  .val0 fun w0 S m H F a w hr => by
    have hp : plRel ⟨w.heap, S, m, H, F, st.loc⟩ p (a.eval x) := by
      have := ev_rel hr x
      rw [hx] at this
      exact this
    refine ⟨a.eval x, ?_, hp⟩
    have : ∃ b, a.eval x = .pointer (some b) := by
      cases p with
      | box b off => obtain ⟨e, _⟩ := hp; exact ⟨_, e⟩
      | elem b i off => obtain ⟨_, _, _, _, _, e⟩ := hp; exact ⟨_, e⟩
      | view τ x off => obtain ⟨_, _, _, _, _, e, _⟩ := hp; exact ⟨_, e⟩
    obtain ⟨b, e⟩ := this
    unfold execOp
    simp only [ho, e, Sem.run_pure]

theorem ok_nilCheck_fn {x : Operand} {g : FuncId} {ps : List Place} (ho : o.op = .nilCheck x) (hx : st.ev x = .v (.one (.fn g ps))) : PureOK P o st (.v (.one (.fn g ps))) [] :=
  .val0 fun w0 S m H F a w hr => by
    have hp : cRel ⟨w.heap, S, m, H, F, st.loc⟩ (.fn g ps) (a.eval x) := by
      have := ev_rel hr x
      rw [hx] at this
      exact this
    refine ⟨a.eval x, ?_, hp⟩
    obtain ⟨vs, e, _⟩ := hp
    unfold execOp
    simp only [ho, e, Sem.run_pure]

theorem places_sound {Γ : Ctx} : ∀ {vs : List FV} {l : List Value} {ps : List Place}, pureK.places vs = some ps → All2 (fvRel Γ) vs l → All2 (plRel Γ) ps l
  | [], _, ps, h, ha => by
    simp [pureK.places] at h
    subst h
    cases ha
    exact .nil
  | v :: r, _, ps, h, ha => by
    cases ha with
    | cons h1 t =>
      unfold pureK.places at h
      split at h
      · rename_i heq
        cases heq
      · rename_i p r' heq
        cases heq
        split at h
        · rename_i ps' hps
          cases h
          exact .cons h1 (places_sound hps t)
        · cases h
      · cases h

theorem evs_rel {w0 : W0} {w : World} {S : Nat → Prop} {m : Nat → Nat} {H : Nat → Value} {F : Nat → Nat → Prop} {a : Act} (hr : Rel w0 S m H F st a w) : ∀ xs : List Operand,
    All2 (fvRel ⟨w.heap, S, m, H, F, st.loc⟩) (evs st xs) (xs.map a.eval)
  | [] => .nil
  | x :: r => .cons (ev_rel hr x) (evs_rel hr r)

theorem ok_makeFunc {g : FuncId} {first captured : Array Operand} {ps : List Place} (ho : o.op = .makeFunc (.func g) first captured) (hf : first.toList = []) (hc : pureK.places (evs st captured.toList) = some ps) :
    PureOK P o st (.v (.one (.fn g ps))) [] :=
  .val0 fun w0 S m H F a w hr => by
    have hf' : first = #[] := by simpa using hf
    subst hf'
    refine ⟨.func (.func g) #[] (captured.map a.eval), ?_, captured.map a.eval, rfl, ?_⟩
    · unfold execOp
      simp [ho, Instr.makeFunc]
    · have := places_sound hc (evs_rel hr captured.toList)
      simpa using this

theorem ok_extract {x : Operand} {i : Nat} {xs : List V1} {v : V1} (ho : o.op = .extract x i) (hx : st.ev x = .tup xs) (hi : xs[i]? = some v) : PureOK P o st (.v v) [] :=
  .val0 fun w0 S m H F a w hr => by
    have h := ev_rel hr x
    rw [hx] at h
    obtain ⟨vs, e, ha⟩ := h
    obtain ⟨v', hv', hrel⟩ := ha.get i v hi
    refine ⟨v', ?_, hrel⟩
    have hv'' : vs[i]? = some v' := by simpa using hv'
    unfold execOp
    simp only [ho, e, Instr.extract, hv'', Sem.run_bind, Sem.run_pure, Result.andThen_ok]

theorem ix_some {n : Int} {len j : Nat} (h : ix n len = some j) : 0 ≤ n ∧ n < len ∧ j = n.toNat ∧ j < len := by
  unfold ix at h
  cases hc : decide (0 ≤ n) && decide (n < (len : Int)) <;> rw [hc] at h <;> simp at h hc
  omega

/-- What fieldAtT tells. -/
theorem fieldAtT_some {E : Tabs} (tok : TabOK P E.T) {s : TypeId} {i off : Nat} {ti : TI} (h : fieldAtT E s i = some (off, ti)) :
    ∃ l f, P.underlying s = some (.struct l) ∧ l[i]? = some f ∧ f.offset = off ∧ TIOK P f.type ti := by
  unfold fieldAtT at h
  split at h
  · rename_i fs size bytes zero ty hs
    split at h
    · rename_i off' t hf
      split at h
      · rename_i ti' ht
        cases h
        obtain ⟨d, hd, hu⟩ := (tok s _ hs).und
        obtain ⟨l, rfl, hl⟩ := hu
        rw [← hl, List.getElem?_map] at hf
        cases hlf : l.toList[i]? with
        | none => rw [hlf] at hf; cases hf
        | some f =>
          rw [hlf] at hf
          simp only [Option.map_some, Option.some.injEq, Prod.mk.injEq] at hf
          obtain ⟨rfl, rfl⟩ := hf
          exact ⟨l, f, hd, by simpa using hlf, rfl, tok _ _ ht⟩
      · cases h
    · cases h
  · cases h

theorem plRel_add {Γ : Ctx} {p : Place} {v : Value} (h : plRel Γ p v) (n : Nat) : ∃ c off, v = .pointer (some ⟨c, off, none⟩) ∧ plRel Γ (p.add n) (.pointer (some ⟨c, off + n, none⟩)) := by
  cases p with
  | box b off =>
    obtain ⟨rfl, cs, hc⟩ := h
    exact ⟨_, _, rfl, rfl, cs, hc⟩
  | elem b i off =>
    obtain ⟨pin, τ, xs, hc, hi, rfl⟩ := h
    exact ⟨_, _, rfl, pin, τ, xs, hc, hi, by rw [Nat.add_assoc]⟩
  | view τ x off =>
    obtain ⟨c, o, arr, te, fz, rfl, rest⟩ := h
    exact ⟨_, _, rfl, c, o, arr, te, fz, by rw [Nat.add_assoc], rest⟩

theorem ok_fieldAddr {E : Tabs} (tok : TabOK P E.T) {s : TypeId} {x : Operand} {i off : Nat} {ti : TI} {p : Place} (ho : o.op = .fieldAddr s x i) (hf : fieldAtT E s i = some (off, ti))
    (hx : st.ev x = .v (.one (.ptr p))) (h0 : Nat.beq ti.size 0 = false) : PureOK P o st (.v (.one (.ptr (p.add off)))) [] :=
  .val0 fun w0 S m H F a w hr => by
    have hp : plRel ⟨w.heap, S, m, H, F, st.loc⟩ p (a.eval x) := by
      have := ev_rel hr x
      rw [hx] at this
      exact this
    obtain ⟨l, f, hu, hlf, rfl, okf⟩ := fieldAtT_some tok hf
    obtain ⟨c, o', ev, hrel⟩ := plRel_add hp f.offset
    refine ⟨_, ?_, hrel⟩
    have h0' : ¬ ti.size = 0 := fun e => by rw [e] at h0; simp at h0
    unfold execOp
    simp only [ho, ev, Instr.fieldAt, Sem.run_bind, run_underlying hu, Result.andThen_ok, hlf, Instr.sureAddr, Sem.run_pure, fieldPlace, okf.sizeOf, if_neg h0', Addr.add_plain]

theorem run_part {t : TypeId} {ti : TI} (ok : TIOK P t ti) {w : World} {cs : Array Value} {off : Nat} (hb : off + ti.size ≤ cs.size) (h1 : ti.und.agg = true ∨ ti.size = 1) :
    ∃ v, (part t cs off).run P w = .ok v w ∧ (ti.und.agg = true → v = .agg (win cs off ti.size).toArray) ∧ (ti.und.agg = false → win cs off ti.size = [v]) := by
  unfold part
  cases hag : ti.und.agg
  · have hs : ti.size = 1 := by simpa [hag] using h1
    rw [hs] at hb
    have hlt : off < cs.size := by omega
    refine ⟨cs[off], ?_, fun h => by simp at h, fun _ => ?_⟩
    · simp only [Sem.run_bind, ok.isAgg, hag, Result.andThen_ok, if_false, Bool.false_eq_true]
      simp [hlt]
    · rw [hs]
      unfold win
      rw [List.drop_eq_getElem_cons (by simpa using hlt)]
      simp
  · refine ⟨.agg (win cs off ti.size).toArray, ?_, fun _ => rfl, fun h => by simp at h⟩
    simp only [Sem.run_bind, ok.isAgg, hag, Result.andThen_ok, if_true, ok.sizeOf, Sem.run_pure]
    congr 2
    apply Array.ext'
    simp only [Array.toList_extract, win, List.extract_eq_take_drop]
    rw [Nat.add_sub_cancel_left]

theorem ok_field {E : Tabs} (tok : TabOK P E.T) {s : TypeId} {x : Operand} {i off : Nat} {ti : TI} {cs : List C} (ho : o.op = .field s x i) (hf : fieldAtT E s i = some (off, ti))
    (hx : st.ev x = .v (.agg cs)) (hb : (Nat.ble (off + ti.size) cs.length && (ti.und.agg || Nat.beq ti.size 1)) = true) : PureOK P o st (wrapV ti.und.agg ((cs.drop off).take ti.size)) [] :=
  .val0 fun w0 S m H F a w hr => by
    have h := ev_rel hr x
    rw [hx] at h
    obtain ⟨arr, ev, ha⟩ := h
    obtain ⟨l, f, hu, hlf, rfl, okf⟩ := fieldAtT_some tok hf
    rw [Bool.and_eq_true] at hb
    have hle := Nat.le_of_ble_eq_true hb.1
    have hlen : cs.length = arr.size := by simpa using ha.length
    obtain ⟨v, hrun, hv1, hv2⟩ := run_part (P := P) okf (w := w) (cs := arr) (off := f.offset) (by omega) (by simpa using hb.2)
    refine ⟨v, ?_, wrapV_rel ((ha.drop f.offset).take ti.size) hv1 hv2⟩
    unfold execOp
    simp only [ho, ev, Instr.field, Sem.run_bind, run_underlying hu, Result.andThen_ok, hlf, asAgg, Sem.run_pure, hrun]

/-- The address of a slice's element. -/
theorem at_rel {Γ : Ctx} (hb : ∀ b k, Γ.loc[b]? = some k → blkRel Γ b k) {s : Sl} {sz n j : Nat} {p : Place} {v : Value} (hs : slRel Γ s v) (hlen : s.len Γ.loc = some n) (hj : j < n) (hp : s.at sz Γ.loc j = some p) :
    ∃ c off cap, v = .slice (some ⟨c, off, none⟩) n cap ∧ plRel Γ p (.pointer (some ⟨c, off + j * sz, none⟩)) := by
  cases s with
  | nil => cases hp
  | row b =>
    obtain ⟨rfl, pin, τ, xs, hl⟩ := hs
    simp only [Sl.len, hl, Option.some.injEq] at hlen
    simp only [Sl.at, hl] at hp
    cases hq : Nat.beq τ.size sz <;> rw [hq] at hp <;> simp at hp
    have hsz := Nat.eq_of_beq_eq_true hq
    subst hp
    obtain ⟨_, base, cap, eH, hbase⟩ := hb b _ hl
    have hbase' : base = some ⟨Γ.m b, 0, none⟩ := by
      rcases hbase with h0 | h0
      · obtain ⟨⟨_, b1, c1, e1, h5, _⟩, _⟩ := hb b _ hl
        rw [eH] at e1
        simp only [List.cons.injEq, Value.slice.injEq, and_true, true_and] at e1
        omega
      · exact h0
    subst hbase'
    refine ⟨Γ.m b, 0, cap, by rw [eH, hlen], pin, τ, xs, hl, by omega, by rw [hsz, Nat.zero_add, Nat.add_zero]⟩
  | sub b off len =>
    obtain ⟨pin, τ, xs, hl, hle, base, cap, rfl, h2, h3, h4⟩ := hs
    simp only [Sl.len, Option.some.injEq] at hlen
    simp only [Sl.at, hl] at hp
    cases hq : Nat.beq τ.size sz <;> rw [hq] at hp <;> simp at hp
    have hsz := Nat.eq_of_beq_eq_true hq
    subst hp hlen
    rcases h4 with h4 | rfl
    · omega
    · refine ⟨Γ.m b, off * τ.size, cap, rfl, pin, τ, xs, hl, by omega, by rw [← hsz, Nat.add_zero, Nat.add_mul]⟩
  | view τ xs =>
    simp only [Sl.len, Option.some.injEq] at hlen
    simp only [Sl.at] at hp
    cases hq : Nat.beq τ.size sz <;> rw [hq] at hp <;> simp at hp
    have hsz := Nat.eq_of_beq_eq_true hq
    subst hp hlen
    obtain ⟨_, base, cap, e, h2, h3, h4⟩ := hs
    simp only [List.cons.injEq, and_true] at e
    rcases h4 with rfl | ⟨c, off, arr, te, fz, rfl, hS, hg, hb', hx⟩
    · simp at hj
    · have hxj : xs[j]? = some xs[j] := List.getElem?_eq_getElem hj
      have hgd : (xs[j]?).getD τ.zero = xs[j] := by rw [hxj]; rfl
      refine ⟨c, off, cap, e, c, off + j * τ.size, arr, te, fz, by rw [hsz]; rfl, hS, hg, ?_, ?_⟩
      · have : (j + 1) * τ.size ≤ xs.length * τ.size := Nat.mul_le_mul_right _ hj
        rw [Nat.add_mul, Nat.one_mul] at this
        omega
      · rw [hgd]; exact hx j _ hxj
  | nest b i off τ xs => cases hp

theorem ok_indexAddr_slice {E : Tabs} (tok : TabOK P E.T) {t e : TypeId} {ti te : TI} {x i : Operand} {s : Sl} {k : IntKind} {n : Int} {len j : Nat} {p : Place} (ho : o.op = .indexAddr t x i) (ht : E.T t = some ti) (hu : ti.und = .slice e)
    (he : E.T e = some te) (hx : st.ev x = .v (.one (.sl s))) (hi : st.ev i = .v (.one (.int k n))) (hl : s.len st.loc = some len) (hj : ix n len = some j) (hp : s.at te.size st.loc j = some p) :
    PureOK P o st (.v (.one (.ptr p))) [] :=
  .val0 fun w0 S m H F a w hr => by
    have hs : slRel ⟨w.heap, S, m, H, F, st.loc⟩ s (a.eval x) := by
      have := ev_rel hr x
      rw [hx] at this
      exact this
    obtain ⟨ei, _⟩ := one_of_int (hi ▸ ev_rel hr i)
    obtain ⟨h0, h1, rfl, h2⟩ := ix_some hj
    obtain ⟨c, off, cap, ev, hrel⟩ := at_rel (Γ := ⟨w.heap, S, m, H, F, st.loc⟩) hr.blk hs hl h2 hp
    refine ⟨_, ?_, hrel⟩
    obtain ⟨d, hd, hud⟩ := (tok t ti ht).und
    rw [hu] at hud
    cases hud
    unfold execOp
    simp only [ho, ev, ei, Instr.indexAt, asIntOf, Sem.run_bind, Sem.run_pure, run_underlying hd, Result.andThen_ok, if_pos (show 0 ≤ n ∧ n < (len : Int) from ⟨h0, h1⟩), (tok e te he).sizeOf, Addr.add_plain]

theorem ok_indexAddr_array {E : Tabs} (tok : TabOK P E.T) {t e : TypeId} {ti te : TI} {x i : Operand} {k : IntKind} {len n : Nat} {p : Place} (ho : o.op = .indexAddr t x i) (ht : E.T t = some ti) (hu : ti.und = .array len e)
    (he : E.T e = some te) (hx : st.ev x = .v (.one (.ptr p))) (hi : st.ev i = .v (.one (.int k (.ofNat n)))) (hn : Nat.blt n len = true) :
    PureOK P o st (.v (.one (.ptr (p.add (n * te.size))))) [] :=
  .val0 fun w0 S m H F a w hr => by
    have hp : plRel ⟨w.heap, S, m, H, F, st.loc⟩ p (a.eval x) := by
      have := ev_rel hr x
      rw [hx] at this
      exact this
    obtain ⟨ei, _⟩ := one_of_int (hi ▸ ev_rel hr i)
    obtain ⟨c, o', ev, hrel⟩ := plRel_add hp (n * te.size)
    have hn' : n < len := by simpa [Nat.blt_eq] using hn
    refine ⟨_, ?_, hrel⟩
    obtain ⟨d, hd, hud⟩ := (tok t ti ht).und
    rw [hu] at hud
    cases hud
    unfold execOp
    simp only [ho, ev, ei, Instr.indexAt, asIntOf, Sem.run_bind, Sem.run_pure, run_underlying hd, Result.andThen_ok, Instr.sureAddr,
      if_pos (show 0 ≤ Int.ofNat n ∧ Int.ofNat n < (len : Int) from ⟨Int.natCast_nonneg n, Int.ofNat_lt.2 hn'⟩), (tok e te he).sizeOf, Addr.add_plain]
    rfl

theorem ok_index_array {E : Tabs} (tok : TabOK P E.T) {t e : TypeId} {ti te : TI} {x i : Operand} {k : IntKind} {len n : Nat} {cs : List C} (ho : o.op = .index t x i) (ht : E.T t = some ti) (hu : ti.und = .array len e)
    (he : E.T e = some te) (hx : st.ev x = .v (.agg cs)) (hi : st.ev i = .v (.one (.int k (.ofNat n))))
    (hn : (Nat.blt n len && Nat.ble (n * te.size + te.size) cs.length && (te.und.agg || Nat.beq te.size 1)) = true) :
    PureOK P o st (wrapV te.und.agg ((cs.drop (n * te.size)).take te.size)) [] :=
  .val0 fun w0 S m H F a w hr => by
    have h := ev_rel hr x
    rw [hx] at h
    obtain ⟨arr, ev, ha⟩ := h
    obtain ⟨ei, _⟩ := one_of_int (hi ▸ ev_rel hr i)
    rw [Bool.and_eq_true, Bool.and_eq_true] at hn
    have hn' : n < len := by simpa [Nat.blt_eq] using hn.1.1
    have hle := Nat.le_of_ble_eq_true hn.1.2
    have hlen : cs.length = arr.size := by simpa using ha.length
    obtain ⟨v, hrun, hv1, hv2⟩ := run_part (P := P) (tok e te he) (w := w) (cs := arr) (off := n * te.size) (by omega) (by simpa using hn.2)
    refine ⟨v, ?_, wrapV_rel ((ha.drop (n * te.size)).take te.size) hv1 hv2⟩
    obtain ⟨d, hd, hud⟩ := (tok t ti ht).und
    rw [hu] at hud
    cases hud
    unfold execOp
    simp only [ho, ev, ei, Instr.index, asIntOf, Sem.run_bind, Sem.run_pure, run_underlying hd, Result.andThen_ok,
      if_pos (show 0 ≤ Int.ofNat n ∧ Int.ofNat n < (len : Int) from ⟨Int.natCast_nonneg n, Int.ofNat_lt.2 hn'⟩), (tok e te he).sizeOf]
    rw [show (Int.ofNat n).toNat = n from rfl, hrun]
    rfl

theorem ok_index_str {E : Tabs} (tok : TabOK P E.T) {t : TypeId} {ti : TI} {x i : Operand} {k : IntKind} {n : Int} {j : Nat} {s : ByteArray} (ho : o.op = .index t x i) (ht : E.T t = some ti) (hu : ti.und = .str)
    (hx : st.ev x = .v (.one (.str s))) (hi : st.ev i = .v (.one (.int k n))) (hj : ix n s.size = some j) : PureOK P o st (.v (.one (.int .u8 (s.data.toList.getD j 0).toNat))) [] :=
  .val0 fun w0 S m H F a w hr => by
    obtain ⟨ex, _⟩ := one_of_str (hx ▸ ev_rel hr x)
    obtain ⟨ei, _⟩ := one_of_int (hi ▸ ev_rel hr i)
    obtain ⟨h0, h1, rfl, h2⟩ := ix_some hj
    obtain ⟨d, hd, hud⟩ := (tok t ti ht).und
    rw [hu] at hud
    cases hud
    have hb : s[n.toNat]? = some s[n.toNat] := by
      rw [getElem?_pos]
    have hl : s.data.toList.getD n.toNat 0 = s[n.toNat] := by
      rw [List.getD_eq_getElem?_getD, List.getElem?_eq_getElem (by simpa using h2)]
      rfl
    refine ⟨.int .u8 (s[n.toNat]).toNat, ?_, ?_⟩
    · unfold execOp
      simp only [ho, ex, ei, Instr.index, asIntOf, Sem.run_bind, Sem.run_pure, run_underlying hd, Result.andThen_ok, if_pos h0, hb]
    · show Value.int .u8 _ = Value.int .u8 _ ∧ _
      rw [hl]
      refine ⟨rfl, ?_, ?_⟩
      · show (0 : Int) ≤ _; exact Int.natCast_nonneg _
      · have : (s[n.toNat]).toNat < 256 := UInt8.toNat_lt _
        show ((s[n.toNat]).toNat : Int) ≤ 255
        omega

end
end Go.Fw
