/- Functions that leave their arguments alone: the interpreter's run of the body is a model. No condition. -/
import Derived.Test.YtcbpdhhipkdofaaFwRun
namespace Go.Fw

/-! ### results -/
section res
variable {P : Program} {E : Tabs} {w0 : W0} {w : World} {S : Nat → Prop} {m : Nat → Nat} {H : Nat → Value} {F : Nat → Nat → Prop} {st : St} {a : Act}

def readRes (tmps : Array Value) : ResultVar → Sem Value
  | .tmp t => pure (tmps.getD t undef)
  | .cell a t => do loadVar t (← asAddr (tmps.getD a undef))

theorem resV_rel (ok : TabOK P E.T) (hr : Rel w0 S m H F st a w) {rv : ResultVar} {fv : FV} (h : resV E st rv = some fv) :
    fv = .undef ∨ (∃ xs, fv = .tup xs) ∨ ∃ v, (readRes a.tmps rv).run P w = .ok v w ∧ fvRel ⟨w.heap, S, m, H, F, st.loc⟩ fv v := by
  cases rv with
  | tmp t =>
    simp only [resV, Option.some.injEq] at h
    subst h
    exact .inr (.inr ⟨a.tmps.getD t undef, by simp [readRes], hr.fr t⟩)
  | cell x t =>
    simp only [resV] at h
    split at h
    · rename_i p ti hl ht
      split at h
      · rename_i cs hc
        simp only [Option.some.injEq] at h
        subst h
        have h0 := hr.fr x
        rw [hl] at h0
        obtain ⟨c, off, arr, te, fz, e, hg, hle, ha⟩ := loadC_rel (Γ := ⟨w.heap, S, m, H, F, st.loc⟩) hr.blk hc h0
        have tok := ok t ti ht
        by_cases h1 : ti.und.agg = true ∨ ti.size = 1
        · obtain ⟨v, hv, g1, g2⟩ := run_loadVar_win tok hg hle h1
          refine .inr (.inr ⟨v, ?_, wrapV_rel ha g1 g2⟩)
          simp only [readRes, e, asAddr, Sem.run_bind, Sem.run_pure, Result.andThen_ok]
          exact hv
        · refine .inl ?_
          have hag : ti.und.agg = false := by
            cases hx : ti.und.agg
            · rfl
            · exact absurd (.inl hx) h1
          have hs : ti.size ≠ 1 := fun e => h1 (.inr e)
          rw [hag]
          have hlen := ha.length
          have hwl := win_length hle
          unfold wrapV
          split
          · rename_i hx; cases hx
          · split
            · simp at hlen; omega
            · rfl
      · cases h
    · cases h

theorem resC_rel (ok : TabOK P E.T) (hr : Rel w0 S m H F st a w) : ∀ (l : List (Bool × Ty)) (vs : List ResultVar) (cs : List C), resC E st l vs = some cs →
    ∃ vals cells, (vs.mapM (readRes a.tmps)).run P w = .ok vals w ∧ TupCells l vals cells ∧ All2 (cRel ⟨w.heap, S, m, H, F, st.loc⟩) cs cells
  | [], [], cs, h => by
    cases h
    exact ⟨[], [], by simp, ⟨rfl, rfl⟩, .nil⟩
  | [], _ :: _, cs, h => by cases h
  | _ :: _, [], cs, h => by cases h
  | (ag, τ) :: r, v :: vs, cs, h => by
    simp only [resC] at h
    split at h
    · rename_i c l hv hl
      obtain ⟨hb, h⟩ := bif_some h
      cases h
      obtain ⟨vals, cells, h1, h2, h3⟩ := resC_rel ok hr r vs l hl
      rcases resV_rel ok hr hv with e | ⟨_, e⟩ | ⟨x, hx, hfx⟩
      · cases e
      · cases e
      · rw [Bool.and_eq_true] at hb
        have hag : ag = false := by simpa using hb.1
        refine ⟨x :: vals, [x] ++ cells, ?_, ⟨x, vals, [x], cells, rfl, rfl, (Nat.eq_of_beq_eq_true hb.2).symm, fun e => by (rw [hag] at e; cases e), fun _ => rfl, h2⟩, .cons hfx h3⟩
        simp only [List.mapM_cons, Sem.run_bind, hx, Result.andThen_ok, h1, Sem.run_pure]
    · rename_i c l hv hl
      obtain ⟨hb, h⟩ := bif_some h
      cases h
      obtain ⟨vals, cells, h1, h2, h3⟩ := resC_rel ok hr r vs l hl
      rcases resV_rel ok hr hv with e | ⟨_, e⟩ | ⟨x, hx, arr, rfl, ha⟩
      · cases e
      · cases e
      · rw [Bool.and_eq_true] at hb
        have hlen := ha.length
        have hb2 := Nat.eq_of_beq_eq_true hb.2
        refine ⟨.agg arr :: vals, arr.toList ++ cells, ?_, ⟨.agg arr, vals, arr.toList, cells, rfl, rfl, by omega, fun _ => by simp, fun e => by (rw [hb.1] at e; cases e), h2⟩, ha.append h3⟩
        simp only [List.mapM_cons, Sem.run_bind, hx, Result.andThen_ok, h1, Sem.run_pure]
    · cases h

theorem results_run {fn : Func} {tmps vals : Array Value} (h : (fn.results.toList.mapM (readRes tmps)).run P w = .ok vals.toList w) :
    (results fn tmps).run P w = .ok (if h : vals.size = 1 then vals[0] else .tuple vals) w := by
  have e : results fn tmps = (fn.results.mapM (readRes tmps) >>= fun vs => pure (if h : vs.size = 1 then vs[0] else .tuple vs)) := by
    unfold results
    rfl
  rw [e, Array.mapM_eq_mapM_toList]
  simp only [Sem.run_bind, map_eq_pure_bind, h, Result.andThen_ok, Sem.run_pure]

/-- What leaves: the value, and the data that it is. -/
theorem resD_rel (ok : TabOK P E.T) (hr : Rel w0 S m H F st a w) {fn : Func} {r : RTy} {x : r.D} {l : List Nat} (h : resD E st fn.results.toList r = some (x, l)) (hn : l.Nodup) :
    ∃ v, (results fn a.tmps).run P w = .ok v w ∧ ResRel w.heap S r x v (rowsF F l) ∧ ∀ b, b ∈ l → ∃ τ xs, st.loc[b]? = some (.row false τ xs) := by
  cases r with
  | one ag τ =>
    simp only [resD] at h
    split at h
    · rename_i cs hc
      obtain ⟨vals, cells, h1, h2, h3⟩ := resC_rel ok hr _ _ _ hc
      obtain ⟨v, vr, c1, c2, rfl, rfl, hl, ha, hb, h4⟩ := h2
      obtain ⟨rfl, rfl⟩ := h4
      rw [List.append_nil] at h3
      obtain ⟨h5, h6⟩ := ownD_rel (Γ := ⟨w.heap, S, m, H, F, st.loc⟩) hr.blk hr.disj _ _ _ _ _ h hn h3
      refine ⟨v, ?_, ⟨c1, ha, hb, h5⟩, h6⟩
      exact results_run (vals := #[v]) h1
    · cases h
  | tup ts =>
    simp only [resD] at h
    cases hlen : Nat.beq ts.length 1
    · rw [hlen] at h
      simp only [cond_false] at h
      split at h
      · rename_i cs hc
        obtain ⟨vals, cells, h1, h2, h3⟩ := resC_rel ok hr _ _ _ hc
        obtain ⟨h5, h6⟩ := ownD_rel (Γ := ⟨w.heap, S, m, H, F, st.loc⟩) hr.blk hr.disj _ _ _ _ _ h hn h3
        have hvl : ∀ (l : List (Bool × Ty)) (vs cs : List Value), TupCells l vs cs → vs.length = l.length := by
          intro l
          induction l with
          | nil => intro vs cs h; rw [h.1]; rfl
          | cons p r ih =>
            intro vs cs h
            obtain ⟨v, vr, c1, c2, rfl, _, _, _, _, h4⟩ := h
            simp [ih _ _ h4]
        have hne : vals.toArray.size ≠ 1 := by
          have := hvl _ _ _ h2
          have h7 : ts.length ≠ 1 := fun e => by rw [e] at hlen; cases hlen
          simp; omega
        refine ⟨.tuple vals.toArray, ?_, ⟨vals.toArray, cells, rfl, by simpa using h2, h5⟩, h6⟩
        have := results_run (P := P) (fn := fn) (tmps := a.tmps) (w := w) (vals := vals.toArray) h1
        rwa [dif_neg hne] at this
      · cases h
    · rw [hlen] at h; cases h
end res

/-! ### data without views -/
def noRR : RTy → Bool
  | .one _ τ => noR τ
  | .tup l => noR (tupTy l)

theorem ResRel.noR {h : Heap} {S S' : Nat → Prop} {r : RTy} {x : r.D} {v : Value} {F : Nat → Prop} (hn : noRR r = true) (hr : ResRel h S r x v F) : ResRel h S' r x v F := by
  cases r with
  | one ag τ =>
    obtain ⟨cs, h1, h2, h3⟩ := hr
    exact ⟨cs, h1, h2, Own.noR _ _ _ _ hn h3⟩
  | tup l =>
    obtain ⟨arr, cs, h1, h2, h3⟩ := hr
    exact ⟨arr, cs, h1, h2, Own.noR _ _ _ _ hn h3⟩

/-! ### what comes in, read alone -/
def roOnly : List PTy → Bool
  | [] => true
  | .ro _ _ :: r => roOnly r
  | .rptr _ :: r => roOnly r
  | .fnc _ _ :: r => roOnly r
  | _ => false

theorem ref_view {Γ : Ctx} {τ : Ty} {x : τ.D} {v : Value} (h : RefRel Γ.h Γ.S τ x v) : plRel Γ (.view τ x 0) v := by
  obtain ⟨c, o, arr, te, fz, rfl, h1, h2, h3, h4⟩ := h
  exact ⟨c, o, arr, te, fz, rfl, h1, h2, h3, h4⟩

theorem caps_view {Γ : Ctx} : ∀ (l : List Ty) (x : TysD l) (vs : List Value), CapsRel Γ.h Γ.S l x vs → All2 (plRel Γ) (enterP.encCaps l x) vs
  | [], _, vs, h => by cases h; exact .nil
  | τ :: r, x, vs, h => by
    obtain ⟨v, vr, rfl, h1, h2⟩ := h
    exact .cons (ref_view h1) (caps_view r x.2 vr h2)

theorem look_enter_lt : ∀ (ps : List PTy) (t n : Nat) (ds : PD ps) (u : Nat), u < t → look (enterPs t n ps ds).1 u = .undef
  | [], _, _, _, _, _ => rfl
  | p :: r, t, n, ds, u, h => by
    simp only [enterPs, look]
    have hb : Nat.beq t u = false := by
      cases hb : Nat.beq t u
      · rfl
      · have := Nat.eq_of_beq_eq_true hb; omega
    rw [hb]
    exact look_enter_lt r (t + 1) _ ds.2 u (by omega)

theorem enter_ro {Γ : Ctx} : ∀ (ps : List PTy) (t n : Nat) (ds : PD ps) (vs : List Value) (G : Nat → Prop), roOnly ps = true → ArgsRel Γ.h Γ.S ps ds vs G →
    (enterPs t n ps ds).2 = [] ∧ ∀ u v, (vs[u]? = some v → fvRel Γ (look (enterPs t n ps ds).1 (t + u)) v) ∧ (vs[u]? = none → look (enterPs t n ps ds).1 (t + u) = .undef)
  | [], t, n, ds, vs, G, _, h => by
    cases h
    exact ⟨rfl, fun u v => ⟨fun h => by simp at h, fun _ => rfl⟩⟩
  | p :: r, t, n, ds, vs, G, hp, h => by
    obtain ⟨v0, vr, F1, F2, rfl, h1, h2, _⟩ := h
    have key : (enterP n p ds.1).2 = [] ∧ fvRel Γ (enterP n p ds.1).1 v0 ∧ roOnly r = true := by
      cases p with
      | ro ag τ =>
        refine ⟨rfl, ?_, hp⟩
        cases ag
        · exact wrapV_rel (ag := false) (enc_rel τ ds.1 _ h1.1) (fun e => by cases e) fun _ => rfl
        · obtain ⟨arr, rfl, h1⟩ := h1
          exact wrapV_rel (ag := true) (enc_rel τ ds.1 _ h1) (fun _ => by simp) fun e => by cases e
      | rptr τ => exact ⟨rfl, ref_view h1, hp⟩
      | fnc f caps =>
        obtain ⟨vs, rfl, h1⟩ := h1
        exact ⟨rfl, ⟨vs, rfl, caps_view caps ds.1 _ h1⟩, hp⟩
      | own ag τ => cases hp
      | optr τ => cases hp
    obtain ⟨k1, k2, k3⟩ := key
    obtain ⟨i1, i2⟩ := enter_ro r (t + 1) (n + (enterP n p ds.1).2.length) ds.2 vr F2 k3 h2
    refine ⟨by simp only [enterPs, k1]; rw [k1] at i1; simpa using i1, fun u v => ?_⟩
    cases u with
    | zero =>
      refine ⟨fun hv => ?_, fun hv => by simp at hv⟩
      simp at hv
      subst hv
      simp only [enterPs, Nat.add_zero, look, Nat.beq_refl, cond_true]
      exact k2
    | succ u =>
      have hb : Nat.beq t (t + (u + 1)) = false := by
        cases hb : Nat.beq t (t + (u + 1))
        · rfl
        · have := Nat.eq_of_beq_eq_true hb; omega
      simp only [enterPs, look, hb, cond_false, List.getElem?_cons_succ]
      rw [show t + (u + 1) = t + 1 + u by omega]
      exact i2 u v

theorem getElem?_args (vs : List Value) (k : Nat) (u : Nat) : (vs.toArray ++ Array.replicate k undef).getD u undef = (vs[u]?).getD undef := by
  rw [Array.getD_eq_getD_getElem?, Array.getElem?_append]
  split
  · simp
  · rename_i h
    have h : vs.length ≤ u := by simpa using h
    rw [List.getElem?_eq_none h]
    cases hx : (Array.replicate k undef)[u - vs.toArray.size]? with
    | none => rfl
    | some y =>
      rw [Array.getElem?_replicate] at hx
      split at hx <;> cases hx
      rfl

section fn
variable {P : Program} {E : Tabs}

/-- **A function's call**: what the interpreter makes of its body. -/
theorem calls_of_eval (ok : EnvOK P E) {f : FuncId} {fn : Func} {c : Code} {L : Nat → Option LP} {fm : FM} (hf : P.funcs[f]? = some fn) (hbody : fn.body = some c) (hro : roOnly fm.ps = true) (hnr : noRR fm.res = true)
    (hsz : fm.ps.length ≤ fn.ntmps) (hL : LoopsOK E L fn.ntmps c) {w : World} {args : List Value} {ds : PD fm.ps} {out : fm.res.D} (hargs : ArgsRel w.heap (fun c => c < w.heap.size) fm.ps ds args (fun _ => False)) (hev : evalF E L fn fm.ps fm.res ds = some out) :
    Calls P f args.toArray w fun e w' => ∃ v, e = .returned v ∧ (Ext w w' ∧ ∃ F, ResRel w'.heap (fun _ => False) fm.res out v F ∧ ∀ c, F c → w.heap.size ≤ c ∧ c < w'.heap.size) := by
  unfold evalF at hev
  rw [hbody] at hev
  simp only [] at hev
  obtain ⟨e1, e2⟩ := enter_ro (Γ := ⟨w.heap, fun c => c < w.heap.size, fun _ => 0, fun _ => undef, fun _ _ => False, []⟩) fm.ps 0 0 ds args _ hro hargs
  have hlen : ∀ (ps : List PTy) (ds : PD ps) (vs : List Value) (G : Nat → Prop), ArgsRel w.heap (fun c => c < w.heap.size) ps ds vs G → vs.length = ps.length := by
    intro ps
    induction ps with
    | nil => intro ds vs G h; cases h; rfl
    | cons p r ih =>
      intro ds vs G h
      obtain ⟨_, vr, _, F2, rfl, _, h2, _⟩ := h
      simp [ih _ _ _ h2]
  have hal := hlen _ _ _ _ hargs
  rw [e1] at hev
  refine calls_of_wp hf hbody ?_
  refine exec_sound (w0 := ⟨w, fun _ => undef⟩) (S := fun c => c < w.heap.size) ok c hL _ out _ _ (fun _ => 0) (fun _ => undef) (fun _ _ => False) _ w _ rfl hev ?_ ?_
  · refine ⟨?_, rfl, fun t => ?_, fun b k hk => by simp at hk, fun b k hk => by simp at hk, fun b b' k k' hk => by simp at hk, fun c hc => ⟨hc, rfl⟩, Nat.le_refl _, rfl, rfl, rfl, fun b τ xs hb => by simp at hb⟩
    · simp; omega
    · show fvRel _ (look (enterPs 0 0 fm.ps ds).1 t) _
      rw [getElem?_args]
      have := e2 t
      rw [Nat.zero_add] at this
      cases hv : args[t]? with
      | none => rw [(this undef).2 hv]; trivial
      | some v => exact (this v).1 hv
  · intro e st' m' H' F' a' w' hn he hr'
    have fin : outF E fn fm.res st' = some out →
        a'.defers = [] ∧ ∃ v, (results fn a'.tmps).run P w' = .ok v w' ∧ ∃ v', Ending.returned v = .returned v' ∧ (Ext w w' ∧ ∃ F, ResRel w'.heap (fun _ => False) fm.res out v' F ∧ ∀ c, F c → w.heap.size ≤ c ∧ c < w'.heap.size) := by
      intro h
      unfold outF at h
      split at h
      · rename_i x l hres
        obtain ⟨hnd, h⟩ := bif_some h
        cases h
        obtain ⟨v, h1, h2, h3⟩ := resD_rel ok.tab hr' hres ((nodupB_iff l).1 hnd)
        refine ⟨hr'.defers, v, h1, v, rfl, ⟨hr'.grow, fun c hc => (hr'.stab c hc).2, hr'.os, hr'.tape, hr'.output⟩, _, h2.noR hnr, ?_⟩
        rintro c ⟨b, hb, hc⟩
        obtain ⟨τ, xs, hl⟩ := h3 b hb
        have := hr'.own b _ hl rfl c hc
        exact ⟨Nat.le_of_not_lt this.2, this.1⟩
      · cases h
    cases e with
    | normal => exact fin he
    | ret => exact fin he
    | exit i => cases he
/-- **A function's model**: what the interpreter makes of its body. -/
theorem FmOK.of_eval (ok : EnvOK P E) {f : FuncId} {fn : Func} {c : Code} {L : Nat → Option LP} {fm : FM} (hf : P.funcs[f]? = some fn) (hbody : fn.body = some c) (hname : (fn.name == "runtime.NumGoroutine") = false) (hro : roOnly fm.ps = true) (hnr : noRR fm.res = true)
    (hsz : fm.ps.length ≤ fn.ntmps) (hL : LoopsOK E L fn.ntmps c) (heval : ∀ ds out, fm.run ds = some out → evalF E L fn fm.ps fm.res ds = some out) : FmOK P f fm := fun _ _ ds out hargs hrun =>
  Lands.of_calls hf (by rw [hbody]; rfl) hname (calls_of_eval ok hf hbody hro hnr hsz hL hargs (heval ds out hrun))
end fn
end Go.Fw
