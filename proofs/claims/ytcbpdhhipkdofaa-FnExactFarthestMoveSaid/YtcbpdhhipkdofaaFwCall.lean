/- Calls: what a callee's model promises, and that a call by a model is what the machine does. No condition. -/
import Derived.Test.YtcbpdhhipkdofaaFwOps4
namespace Go.Fw

/-- A pointer to data that is read alone. -/
def RefRel (h : Heap) (T : Nat → Prop) (τ : Ty) (x : τ.D) (v : Value) : Prop :=
  ∃ c o arr te fz, v = .pointer (some ⟨c, o, none⟩) ∧ T c ∧ h[c]? = some (.cells arr te fz) ∧ o + τ.size ≤ arr.size ∧ Rep h T τ x (win arr o τ.size)

def CapsRel (h : Heap) (T : Nat → Prop) : (l : List Ty) → TysD l → List Value → Prop
  | [], _, vs => vs = []
  | τ :: r, x, vs => ∃ v vr, vs = v :: vr ∧ RefRel h T τ x.1 v ∧ CapsRel h T r x.2 vr

/-- What an argument is. F: the blocks that come with it to be changed. -/
def ArgRel (h : Heap) (T : Nat → Prop) : (p : PTy) → p.D → Value → (Nat → Prop) → Prop
  | .ro false τ, x, v, _ => Rep h T τ x [v] ∧ v.oneCell' = true
  | .ro true τ, x, v, _ => ∃ arr, v = .agg arr ∧ Rep h T τ x arr.toList
  | .rptr τ, x, v, _ => RefRel h T τ x v
  | .fnc f caps, x, v, _ => ∃ vs : Array Value, v = .func (.func f) #[] vs ∧ CapsRel h T caps x vs.toList
  | .own false τ, x, v, F => Own h T τ x [v] F ∧ v.oneCell' = true
  | .own true τ, x, v, F => ∃ arr, v = .agg arr ∧ Own h T τ x arr.toList F
  | .optr τ, x, v, F => ∃ c arr te G, v = .pointer (some ⟨c, 0, none⟩) ∧ F c ∧ h[c]? = some (.cells arr te (0, 0)) ∧ Own h T τ x arr.toList G ∧ ∀ b, G b → F b ∧ b ≠ c

def ArgsRel (h : Heap) (T : Nat → Prop) : (ps : List PTy) → PD ps → List Value → (Nat → Prop) → Prop
  | [], _, vs, _ => vs = []
  | p :: r, x, vs, F => ∃ v vr F1 F2, vs = v :: vr ∧ ArgRel h T p x.1 v F1 ∧ ArgsRel h T r x.2 vr F2 ∧ (∀ c, F1 c → F c) ∧ (∀ c, F2 c → F c) ∧ ∀ c, F1 c → ¬ F2 c

/-- Values and the cells that they are. -/
def TupCells : List (Bool × Ty) → List Value → List Value → Prop
  | [], vs, cs => vs = [] ∧ cs = []
  | (ag, τ) :: r, vs, cs => ∃ v vr c1 c2, vs = v :: vr ∧ cs = c1 ++ c2 ∧ c1.length = τ.size ∧ (ag = true → v = .agg c1.toArray) ∧ (ag = false → c1 = [v]) ∧ TupCells r vr c2

def ResRel (h : Heap) (S : Nat → Prop) : (r : RTy) → r.D → Value → (Nat → Prop) → Prop
  | .one ag τ, x, v, F => ∃ cs, (ag = true → v = .agg cs.toArray) ∧ (ag = false → cs = [v]) ∧ Own h S τ x cs F
  | .tup l, x, v, F => ∃ arr cs, v = .tuple arr ∧ TupCells l arr.toList cs ∧ Own h S (tupTy l) x cs F

/-- What becomes of a call, whoever makes it. -/
def Lands (P : Program) (f : FuncId) (args : Array Value) (w : World) (R : Value → World → Prop) : Prop :=
  ∀ (o : Oper) (a : Act) (next : Act → World → Prop) (Q : Exit → Act → World → Prop), (∀ v w', R v w' → next (a.put o.dst v) w') → Oper.upon P o a next Q ((callFunc f args).run P w)

theorem Lands.of_calls {P : Program} {f : FuncId} {fn : Func} {args : Array Value} {w : World} {R : Value → World → Prop} (hf : P.funcs[f]? = some fn) (hb : fn.body.isNone = false) (hn : (fn.name == "runtime.NumGoroutine") = false)
    (h : Calls P f args w fun e w' => ∃ v, e = .returned v ∧ R v w') : Lands P f args w R := by
  intro o a next Q hnext
  have : (callFunc f args).run P w = .ok (.enter f args) w := by
    simp only [callFunc, Sem.run_bind, run_program, Result.andThen_ok, hf, hn, hb, Bool.false_eq_true, if_false, Sem.run_pure]
  rw [this, Oper.upon_enter]
  refine h.mono ?_
  rintro e w' ⟨v, rfl, hr⟩
  exact hnext v w' hr

/-- A model of a callee that leaves its arguments alone. -/
def FmOK (P : Program) (f : FuncId) (fm : FM) : Prop :=
  ∀ (w : World) (args : List Value) (ds : PD fm.ps) (out : fm.res.D), ArgsRel w.heap (fun c => c < w.heap.size) fm.ps ds args (fun _ => False) → fm.run ds = some out →
    Lands P f args.toArray w fun v w' => Ext w w' ∧ ∃ F, ResRel w'.heap (fun _ => False) fm.res out v F ∧ ∀ c, F c → w.heap.size ≤ c ∧ c < w'.heap.size

/-- A model of a callee that changes what it is lent. -/
def FxOK (P : Program) (f : FuncId) (fx : FX) : Prop :=
  ∀ (w : World) (args : List Value) (ds : PD fx.ps) (out : fx.res.D × PD fx.ps) (F : Nat → Prop), (∀ c, F c → c < w.heap.size) → ArgsRel w.heap (fun c => c < w.heap.size ∧ ¬ F c) fx.ps ds args F → fx.run ds = some out →
    Lands P f args.toArray w fun v w' => w.heap.size ≤ w'.heap.size ∧ (∀ c, c < w.heap.size → ¬ F c → w'.heap[c]? = w.heap[c]?) ∧ w'.os = w.os ∧ w'.tape = w.tape ∧ w'.output = w.output ∧
      ∃ Fr F', ResRel w'.heap (fun _ => False) fx.res out.1 v Fr ∧ ArgsRel w'.heap (fun c => c < w.heap.size ∧ ¬ F c) fx.ps out.2 args F' ∧
        (∀ c, Fr c → (F c ∨ w.heap.size ≤ c) ∧ c < w'.heap.size) ∧ (∀ c, F' c → (F c ∨ w.heap.size ≤ c) ∧ c < w'.heap.size) ∧ ∀ c, Fr c → ¬ F' c

structure EnvOK (P : Program) (E : Tabs) : Prop where
  tab : TabOK P E.T
  pur : ∀ f fm, fm ∈ E.pur f → FmOK P f fm
  mutf : ∀ f fx, fx ∈ E.mutf f → FxOK P f fx
  mixed : P.follows .mixedOrders = true

section args
variable {Γ : Ctx} {T : Nat → Prop} (hb : ∀ b k, Γ.loc[b]? = some k → blkRel Γ b k) (hF : ∀ b k, Γ.loc[b]? = some k → k.alive = true → ∀ c, Γ.F b c → T c) (hS : ∀ c, Γ.S c → T c)
include hb hF hS

theorem ref_rel {τ : Ty} {p : Place} {cs : List C} {x : τ.D} {v : Value} (h : loadC Γ.loc τ.size p = some cs) (hs : snapD Γ.loc τ cs = some x) (hp : plRel Γ p v) : RefRel Γ.h T τ x v := by
  obtain ⟨c, off, arr, te, fz, rfl, hg, hle, ha⟩ := loadC_rel hb h hp
  refine ⟨c, off, arr, te, fz, rfl, ?_, hg, hle, snapD_rel hb hF hS τ cs x _ hs ha⟩
  cases p with
  | box b o =>
    obtain ⟨e, cs', hl⟩ := hp
    obtain ⟨_, _, _, _, hm⟩ := hb b _ hl
    cases e
    exact hF b _ hl rfl _ hm
  | elem b i o =>
    obtain ⟨pin, τ', xs, hl, hi, e⟩ := hp
    obtain ⟨⟨_, b1, c1, e1, h5, h6, h7⟩, base, cap, eH, hbase⟩ := hb b _ hl
    cases e
    rw [eH] at e1
    simp only [List.cons.injEq, Value.slice.injEq, and_true, true_and] at e1
    obtain ⟨rfl, rfl⟩ := e1
    rcases h7 with h0 | ⟨c, arr', te', rfl, hFc, _⟩
    · omega
    · rcases hbase with h0 | h0
      · omega
      · have : c = Γ.m b := by simpa using h0
        rw [← this]
        exact hF b _ hl rfl _ hFc
  | view τ' x' o =>
    obtain ⟨c', o', arr', te', fz', e, hs', _⟩ := hp
    cases e
    exact hS _ hs'

theorem caps_rel : ∀ (l : List Ty) (ps : List Place) (x : TysD l) (vs : List Value), capsD Γ.loc l ps = some x → All2 (plRel Γ) ps vs → CapsRel Γ.h T l x vs
  | [], [], x, vs, h, ha => by cases ha; rfl
  | [], _ :: _, x, vs, h, ha => by cases h
  | τ :: r, [], x, vs, h, ha => by cases h
  | τ :: r, p :: ps, x, vs, h, ha => by
    simp only [capsD] at h
    split at h
    · rename_i cs hl
      split at h
      · rename_i y z hy hz
        cases h
        cases ha with
        | cons h1 t => exact ⟨_, _, rfl, ref_rel hb hF hS hl hy h1, caps_rel r ps z _ hz t⟩
      · cases h
    · cases h

theorem argD_rel (hdr : ∀ b pin τ xs, Γ.loc[b]? = some (.row pin τ xs) → ∃ base cap, Γ.H b = .slice base xs.length cap) {p : PTy} {fv : FV} {x : p.D} {v : Value} (h : argD Γ.loc p fv = some x) (hr : fvRel Γ fv v) :
    ArgRel Γ.h T p x v (fun _ => False) := by
  unfold argD at h
  split at h
  · exact ⟨snapD_rel hb hF hS _ _ _ _ h (.cons hr .nil), cRel.one hdr hr⟩
  · obtain ⟨arr, rfl, ha⟩ := hr
    exact ⟨arr, rfl, snapD_rel hb hF hS _ _ _ _ h ha⟩
  · split at h
    · rename_i cs hl
      exact ref_rel hb hF hS hl h hr
    · cases h
  · split at h
    · subst_vars
      obtain ⟨vs, rfl, ha⟩ := hr
      exact ⟨vs, rfl, caps_rel hb hF hS _ _ _ _ h ha⟩
    · cases h
  · cases h

theorem argsD_rel (hdr : ∀ b pin τ xs, Γ.loc[b]? = some (.row pin τ xs) → ∃ base cap, Γ.H b = .slice base xs.length cap) : ∀ (ps : List PTy) (fvs : List FV) (x : PD ps) (vs : List Value), argsD Γ.loc ps fvs = some x → All2 (fvRel Γ) fvs vs →
    ArgsRel Γ.h T ps x vs (fun _ => False)
  | [], [], x, vs, h, ha => by cases ha; rfl
  | [], _ :: _, x, vs, h, ha => by cases h
  | p :: r, [], x, vs, h, ha => by cases h
  | p :: r, v :: fvs, x, vs, h, ha => by
    simp only [argsD] at h
    split at h
    · rename_i y z hy hz
      cases h
      cases ha with
      | cons h1 t => exact ⟨_, _, fun _ => False, fun _ => False, rfl, argD_rel hb hF hS hdr hy h1, argsD_rel hdr r fvs z _ hz t, fun _ h => h, fun _ h => h, fun _ h => h.elim⟩
    · cases h
end args

theorem splitV_rel {Γ : Ctx} : ∀ (l : List (Bool × Ty)) (cs : List C) (vs cv : List Value), TupCells l vs cv → All2 (cRel Γ) cs cv → All2 (v1Rel Γ) (splitV l cs) vs
  | [], cs, vs, cv, h, ha => by obtain ⟨rfl, _⟩ := h; exact .nil
  | (ag, τ) :: r, cs, vs, cv, h, ha => by
    obtain ⟨v, vr, c1, c2, rfl, rfl, hl, h1, h2, ht⟩ := h
    obtain ⟨a1, a2⟩ := ha.split_len
    rw [hl] at a1 a2
    simp only [splitV]
    refine .cons ?_ (splitV_rel r _ _ _ ht a2)
    cases ag
    · have e := h2 rfl
      subst e
      have hs : τ.size = 1 := by simpa using hl.symm
      rw [hs] at a1
      cases cs with
      | nil => cases a1
      | cons c r =>
        rw [List.take_succ_cons, List.take_zero] at a1
        cases a1 with
        | cons h _ => exact h
    · exact ⟨c1.toArray, h1 rfl, a1⟩

theorem wrapV_rel' {Γ : Ctx} {ag : Bool} {cs : List C} {v : Value} {l : List Value} (ha : All2 (cRel Γ) cs l) (h1 : ag = true → v = .agg l.toArray) (h2 : ag = false → l = [v]) : fvRel Γ (wrapV ag cs) v := wrapV_rel ha h1 h2

/-- The result of a call becomes a value and rows, in the blocks that it came with. -/
theorem impR_gen {S : Nat → Prop} {m : Nat → Nat} {H : Nat → Value} {F : Nat → Nat → Prop} {loc : List Blk} {w' : World} {res : RTy} {out : res.D} {v : Value} {G : Nat → Prop} (n : Nat) (hn : n = loc.length)
    (hr : ResRel w'.heap (fun _ => False) res out v G) :
    ∃ m' H' F', (∀ b, b < loc.length → m' b = m b ∧ H' b = H b ∧ F' b = F b) ∧ fvRel ⟨w'.heap, S, m', H', F', loc ++ (impR n res out).2⟩ (impR n res out).1 v ∧
      (∀ j k, (impR n res out).2[j]? = some k → blkRel ⟨w'.heap, S, m', H', F', loc ++ (impR n res out).2⟩ (loc.length + j) k ∧ ∀ c, F' (loc.length + j) c → G c) ∧
      (∀ j j', j ≠ j' → j < (impR n res out).2.length → j' < (impR n res out).2.length → ∀ c, F' (loc.length + j) c → ¬ F' (loc.length + j') c) ∧
      ∀ (j : Nat) (τ : Ty) (xs : List τ.D), (impR n res out).2[j]? = some (Blk.row true τ xs) → False := by
  subst hn
  have key : ∀ (τ : Ty) (x : τ.D) (cs : List Value), Own w'.heap (fun _ => False) τ x cs G → Own w'.heap S τ x cs G := fun τ x cs ho => Own.mono (fun _ h => h.elim) (fun _ _ => rfl) _ _ _ _ _ (fun _ h => h) (fun _ _ => rfl) ho
  cases res with
  | one ag τ =>
    obtain ⟨cs, h1, h2, ho⟩ := hr
    obtain ⟨m', H', F', k1, a1, b1, d1⟩ := imp_spec false τ out cs G loc m H F (key _ _ _ ho)
    exact ⟨m', H', F', k1, wrapV_rel a1 h1 h2, b1, d1, fun j σ xs hj => imp_unp τ _ out j σ xs hj⟩
  | tup l =>
    obtain ⟨arr, cs, rfl, ht, ho⟩ := hr
    obtain ⟨m', H', F', k1, a1, b1, d1⟩ := imp_spec false (tupTy l) out cs G loc m H F (key _ _ _ ho)
    exact ⟨m', H', F', k1, ⟨arr, rfl, splitV_rel l _ _ _ ht a1⟩, b1, d1, fun j σ xs hj => imp_unp (tupTy l) _ out j σ xs hj⟩

theorem impR_fresh {S : Nat → Prop} {m : Nat → Nat} {H : Nat → Value} {F : Nat → Nat → Prop} {loc : List Blk} {w w' : World} {res : RTy} {out : res.D} {v : Value} {G : Nat → Prop}
    (hr : ResRel w'.heap (fun _ => False) res out v G) (hG : ∀ c, G c → w.heap.size ≤ c ∧ c < w'.heap.size) :
    ∃ m' H' F', Fresh S m H F loc w w' (impR loc.length res out).1 v (impR loc.length res out).2 m' H' F' := by
  obtain ⟨m', H', F', k1, a1, b1, d1, u1⟩ := impR_gen (S := S) (m := m) (H := H) (F := F) (loc := loc) _ rfl hr
  exact ⟨m', H', F', k1, a1, fun j k hj => ⟨(b1 j k hj).1, fun c hc => hG c ((b1 j k hj).2 c hc)⟩, d1, u1⟩

theorem bif_some {α : Type} {c : Bool} {x : Option α} {r : α} (h : (bif c then x else none) = some r) : c = true ∧ x = some r := by
  cases c
  · cases h
  · exact ⟨rfl, h⟩

section
variable {P : Program} {o : Oper} {st : St} {R : Type} {r : R}

theorem callPure_sound {c : Call} {g : Operand} {f : FuncId} {caps : List Place} {k : FV → List Blk → Option R} (ho : o.op = .call c) (hc : c.callee = .value g) (hg : st.ev g = .v (.one (.fn f caps))) :
    ∀ (l : List FM), (∀ fm, fm ∈ l → FmOK P f fm) → callPure st.loc (evs st c.args.toList ++ caps.map fun p => .v (.one (.ptr p))) k l = some r → ∃ v bs, k v bs = some r ∧ PureOK P o st v bs
  | [], _, h => by cases h
  | fm :: l, hl, h => by
    simp only [callPure] at h
    split at h
    · rename_i ds hds
      cases hrun : fm.run ds with
      | none => rw [hrun] at h; cases h
      | some out =>
        rw [hrun] at h
        simp only [Option.bind_some] at h
        refine ⟨_, _, h, ?_⟩
        intro w0 S m H F a w hr next Q hn
        have hgv : ∃ vs : Array Value, a.eval g = .func (.func f) #[] vs ∧ All2 (plRel ⟨w.heap, S, m, H, F, st.loc⟩) caps vs.toList := by
          have := ev_rel hr g
          rw [hg] at this
          exact this
        obtain ⟨vs, eg, hcaps⟩ := hgv
        have hall : All2 (fvRel ⟨w.heap, S, m, H, F, st.loc⟩) (evs st c.args.toList ++ caps.map fun p => .v (.one (.ptr p))) (c.args.toList.map a.eval ++ vs.toList) :=
          (evs_rel hr c.args.toList).append (hcaps.map_left fun _ _ h => h)
        have hargs := argsD_rel (Γ := ⟨w.heap, S, m, H, F, st.loc⟩) (T := fun c => c < w.heap.size) hr.blk hr.F_lt hr.S_lt hr.hdr fm.ps _ ds _ hds hall
        have hland := hl fm (by simp) w _ ds out hargs hrun
        unfold Oper.wp execOp
        simp only [ho, resolve, hc, eg, Deferred.ofValue, Sem.run_bind, Sem.run_pure, Result.andThen_ok, invoke]
        have eargs : #[] ++ c.args.map a.eval ++ vs = (c.args.toList.map a.eval ++ vs.toList).toArray := by
          apply Array.ext'
          simp
        rw [eargs]
        refine hland o a next Q ?_
        rintro v w' ⟨hext, G, hres, hG⟩
        obtain ⟨m', H', F', hf⟩ := impR_fresh (S := S) (m := m) (H := H) (F := F) (loc := st.loc) hres hG
        exact hn v w' m' H' F' hext hf
    · exact callPure_sound ho hc hg l (fun fm hfm => hl fm (by simp [hfm])) h

/-- **Whatever the interpreter takes for an operation that changes nothing, the machine does.** -/
theorem pureK_sound {E : Tabs} (ok : EnvOK P E) {f : FV → List Blk → Option R} (h : pureK E o st f = some r) : ∃ v bs, f v bs = some r ∧ PureOK P o st v bs := by
  have tok := ok.tab
  unfold pureK at h
  split at h
  · rename_i x ho; exact ⟨_, _, h, ok_move ho⟩
  · rename_i x ho; exact ⟨_, _, h, ok_assign ho⟩
  · rename_i c x y ho
    split at h
    · rename_i t hc
      refine ⟨_, _, ?_, ok_pick ho hc⟩
      cases t <;> exact h
    · cases h
  · rename_i t x ho
    split at h
    · rename_i cs hx; exact ⟨_, _, h, ok_box ho hx⟩
    · cases h
  · rename_i t ho
    split at h
    · rename_i ti ht; exact ⟨_, _, h, ok_alloc (tok t ti ht) ho⟩
    · cases h
  · rename_i t parts ho
    split at h
    · rename_i ti ps ht hps
      split at h
      · rename_i fs hu
        split at h
        · rename_i pl hpl
          split at h
          · rename_i cs hf; exact ⟨_, _, h, ok_build_struct tok ho ht hu hps hpl hf⟩
          · cases h
        · cases h
      · rename_i n e hu
        split at h
        · rename_i te he
          split at h
          · rename_i cs hf; exact ⟨_, _, h, ok_build_array tok ho ht hu he hps hf⟩
          · cases h
        · cases h
      · cases h
    · cases h
  · rename_i t x ho
    split at h
    · rename_i ti p ht hx
      split at h
      · rename_i cs hl
        cases hb : ti.und.agg || Nat.beq ti.size 1 <;> rw [hb] at h
        · cases h
        · exact ⟨_, _, h, ok_load (tok t ti ht) ho hx hl hb⟩
      · cases h
    · cases h
  · rename_i x ho
    split at h
    · rename_i p hx; exact ⟨_, _, h, ok_nilCheck_ptr ho hx⟩
    · rename_i g ps hx; exact ⟨_, _, h, ok_nilCheck_fn ho hx⟩
    · cases h
  · rename_i op t x y yt ho
    split at h
    · rename_i ti a b ht hx hy
      obtain ⟨e, h1, h2⟩ := binK_sound (tok t ti ht) ho hx hy h
      exact ⟨_, _, h1, h2⟩
    · cases h
  · rename_i op t x ho
    split at h
    · rename_i a hx
      obtain ⟨e, h1, h2⟩ := unK_sound ho hx h
      exact ⟨_, _, h1, h2⟩
    · cases h
  · rename_i s d x ho
    split at h
    · rename_i ts td a hs hd hx
      obtain ⟨e, h1, h2⟩ := convK_sound (tok s ts hs) (tok d td hd) ho hx h
      exact ⟨_, _, h1, h2⟩
    · cases h
  · rename_i g first captured ho
    split at h
    · rename_i hf
      split at h
      · rename_i ps hps
        exact ⟨_, _, h, ok_makeFunc ho hf hps⟩
      · cases h
    · cases h
  · rename_i t l c ho
    split at h
    · rename_i e size bytes zero ty ht
      split at h
      · rename_i te k n k' m' he hl hc
        split at h
        · rename_i z hz
          obtain ⟨hb1, h⟩ := bif_some h
          obtain ⟨hb2, h⟩ := bif_some h
          exact ⟨_, _, h, ok_makeSlice tok ho ht rfl he hl hc hz hb1 hb2⟩
        · cases h
      · cases h
    · cases h
  · rename_i t x lo hi mx ho
    split at h
    · rename_i s hx
      split at h
      · rename_i e size bytes zero ty ht
        split at h
        · rename_i te he
          obtain ⟨hb, h⟩ := bif_some h
          obtain ⟨s', h1, h2⟩ := ok_slice tok ho ht rfl he hx hb h
          exact ⟨_, _, h1, h2⟩
        · cases h
      · cases h
    · rename_i s hx
      split at h
      · rename_i size bytes zero ty ht
        obtain ⟨l, u, h1, h2⟩ := ok_slice_str tok ho ht rfl hx h
        exact ⟨_, _, h1, h2⟩
      · cases h
    · rename_i m1 s hx
      split at h
      · rename_i e size bytes zero ty h1 ht
        split at h
        · rename_i te he
          obtain ⟨hb, h⟩ := bif_some h
          exact ⟨_, _, h, ok_slice0 tok ho ht rfl he hx hb⟩
        · cases h
      · cases h
    · cases h
  · rename_i s x i ho
    split at h
    · rename_i off ti p hf hx
      cases hb : Nat.beq ti.size 0 <;> rw [hb] at h
      · exact ⟨_, _, h, ok_fieldAddr tok ho hf hx hb⟩
      · cases h
    · cases h
  · rename_i s x i ho
    split at h
    · rename_i off ti cs hf hx
      obtain ⟨hb, h⟩ := bif_some h
      exact ⟨_, _, h, ok_field tok ho hf hx hb⟩
    · cases h
  · rename_i t x i ho
    split at h
    · rename_i e size bytes zero ty s k n ht hx hi
      split at h
      · rename_i te len he hl
        cases hj : ix n len with
        | none => rw [hj] at h; cases h
        | some j =>
          rw [hj] at h
          simp only [Option.bind_some] at h
          split at h
          · rename_i p hp
            exact ⟨_, _, h, ok_indexAddr_slice tok ho ht rfl he hx hi hl hj hp⟩
          · cases h
      · cases h
    · rename_i len e size bytes zero ty p k n ht hx hi
      split at h
      · rename_i te he
        obtain ⟨hb, h⟩ := bif_some h
        exact ⟨_, _, h, ok_indexAddr_array tok ho ht rfl he hx hi hb⟩
      · cases h
    · cases h
  · rename_i t x i ho
    split at h
    · rename_i size bytes zero ty s k n ht hx hi
      cases hj : ix n s.size with
      | none => rw [hj] at h; cases h
      | some j =>
        rw [hj] at h
        exact ⟨_, _, h, ok_index_str tok ho ht rfl hx hi hj⟩
    · rename_i len e size bytes zero ty cs k n ht hx hi
      split at h
      · rename_i te he
        obtain ⟨hb, h⟩ := bif_some h
        exact ⟨_, _, h, ok_index_array tok ho ht rfl he hx hi hb⟩
      · cases h
    · cases h
  · rename_i x i ho
    split at h
    · rename_i xs hx
      split at h
      · rename_i v hi
        exact ⟨_, _, h, ok_extract ho hx hi⟩
      · cases h
    · cases h
  · rename_i t len parts ho
    split at h
    · rename_i e size bytes zero ty ps ht hps
      split at h
      · rename_i te he
        split at h
        · rename_i cs hf
          split at h
          · rename_i xs hx
            obtain ⟨hb, h⟩ := bif_some h
            exact ⟨_, _, h, ok_buildSlice tok ho ht rfl he hps hf hx hb⟩
          · cases h
        · cases h
      · cases h
    · cases h
  · rename_i c ho
    split at h
    · rename_i g hc
      split at h
      · rename_i f' caps hg
        exact callPure_sound ho hc hg _ (ok.pur f') h
      · cases h
    · rename_i hc
      split at h
      · rename_i t hat
        split at h
        · rename_i s e size bytes zero ty hx ht
          split at h
          · rename_i n hl
            exact ⟨_, _, h, ok_len_slice tok ho hc hat ht rfl hx hl⟩
          · cases h
        · rename_i s size bytes zero ty hx ht
          exact ⟨_, _, h, ok_len_str tok ho hc hat ht rfl hx⟩
        · cases h
      · cases h
    · rename_i hc
      split at h
      · rename_i x rest hx
        split at h
        · rename_i y hy
          exact ⟨_, _, h, ok_minmax true ho hc hx hy⟩
        · cases h
      · cases h
    · rename_i hc
      split at h
      · rename_i x rest hx
        split at h
        · rename_i y hy
          exact ⟨_, _, h, ok_minmax false ho hc hx hy⟩
        · cases h
      · cases h
    · cases h
  · cases h

end
end Go.Fw
