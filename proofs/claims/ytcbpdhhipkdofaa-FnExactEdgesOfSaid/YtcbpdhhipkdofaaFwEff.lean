/- Operations that change memory of the call's own: stores and append. No condition. -/
import Derived.Test.YtcbpdhhipkdofaaFwCall
namespace Go.Fw

/-! ### forgetting as one map -/
theorem killFr_nil (fr : List (Nat × FV)) : killFr [] [] fr = fr := by
  induction fr with
  | nil => rfl
  | cons p r ih => simp only [killFr, List.map_cons, FV.kill_nil] at ih ⊢; rw [ih]

theorem deadAt_nil : ∀ (i : Nat) (l : List Blk), deadAt [] i l = l
  | _, [] => rfl
  | i, b :: r => by simp [deadAt, memB, deadAt_nil (i + 1) r]

theorem Blk.kill_nil (b : Blk) : b.kill [] [] = b := by cases b <;> simp [Blk.kill, map_kill_nil]

theorem St.kill_eq (st : St) (ds ns : List Nat) : st.kill ds ns = { st with fr := killFr ds ns st.fr, loc := (deadAt ds 0 st.loc).map (Blk.kill ds ns) } := by
  cases ds <;> cases ns <;> try rfl
  simp only [St.kill, killFr_nil, deadAt_nil]
  have : ∀ l : List Blk, l.map (Blk.kill [] []) = l := fun l => by
    induction l with
    | nil => rfl
    | cons b r ih => rw [List.map_cons, Blk.kill_nil, ih]
  rw [this]

theorem deadAt_get (ds : List Nat) : ∀ (i : Nat) (l : List Blk) (j : Nat), (deadAt ds i l)[j]? = (l[j]?).map fun b => bif memB ds (i + j) then .dead else b
  | i, [], j => by simp [deadAt]
  | i, b :: r, 0 => by simp [deadAt]
  | i, b :: r, j + 1 => by
    simp only [deadAt, List.getElem?_cons_succ]
    rw [deadAt_get ds (i + 1) r j, show i + 1 + j = i + (j + 1) by omega]

theorem kill_loc_get (ds ns : List Nat) (l : List Blk) (b : Nat) : ((deadAt ds 0 l).map (Blk.kill ds ns))[b]? = (l[b]?).map fun k => (bif memB ds b then Blk.dead else k).kill ds ns := by
  rw [List.getElem?_map, deadAt_get, Nat.zero_add, Option.map_map]
  rfl

theorem kill_alive {k : Blk} {ds ns : List Nat} : (k.kill ds ns).alive = k.alive := by cases k <;> rfl

section
variable {P : Program} {w0 : W0} {w w' : World} {S : Nat → Prop} {m m' : Nat → Nat} {H H' : Nat → Value} {F F' : Nat → Nat → Prop} {st : St} {a : Act}

/-- One block b changes; the blocks ds are gone (into it), what pointed into the elements of ns is forgotten. -/
theorem Rel.upd (h : Rel w0 S m H F st a w) {ds ns : List Nat} {b : Nat} {k k' : Blk} (hk : st.loc[b]? = some k) (hal : k.alive = true) (hb : b ∉ ds ∨ b ∈ ds)
    (hm : ∀ b', b' ≠ b → m' b' = m b' ∧ H' b' = H b' ∧ F' b' = F b')
    (hsz : w.heap.size ≤ w'.heap.size) (hheap : ∀ c, c < w.heap.size → ¬ F b c → w'.heap[c]? = w.heap[c]?) (hos : w'.os = w.os) (htape : w'.tape = w.tape) (hout : w'.output = w.output)
    (hF : ∀ c, F' b c → (F b c ∨ (∃ d k, d ∈ ds ∧ st.loc[d]? = some k ∧ k.alive = true ∧ F d c) ∨ w.heap.size ≤ c) ∧ c < w'.heap.size)
    (hkb : b ∉ ds → ((∃ cs cs', k = .box cs ∧ k' = .box cs') ∨ (∃ pin pin' τ xs xs', k = .row pin τ xs ∧ k' = .row pin' τ xs' ∧ xs'.length = xs.length ∧ H' b = H b)) ∧ m' b = m b)
    (hns : b ∉ ds → b ∉ ns → ∀ pin τ xs, k = .row pin τ xs → hasSl τ = false)
    (hpin : ∀ τ xs, k' = .row true τ xs → (∃ τ0 xs0, k = .row true τ0 xs0) ∧ H' b = H b)
    (hnew : blkRel ⟨w'.heap, S, m', H', F', ((deadAt ds 0 st.loc).map (Blk.kill ds ns)).set b k'⟩ b k') :
    Rel w0 S m' H' F' { st with fr := killFr ds ns st.fr, loc := ((deadAt ds 0 st.loc).map (Blk.kill ds ns)).set b k' } a w' := by
  have hblt : b < st.loc.length := (List.getElem?_eq_some_iff.1 hk).1
  have hblt' : b < ((deadAt ds 0 st.loc).map (Blk.kill ds ns)).length := by
    have := kill_loc_get ds ns st.loc b
    rw [hk] at this
    exact (List.getElem?_eq_some_iff.1 this).1
  have getb : (((deadAt ds 0 st.loc).map (Blk.kill ds ns)).set b k')[b]? = some k' := by rw [List.getElem?_set_self hblt']
  have getn : ∀ b', b' ≠ b → (((deadAt ds 0 st.loc).map (Blk.kill ds ns)).set b k')[b']? = (st.loc[b']?).map fun k => (bif memB ds b' then Blk.dead else k).kill ds ns := fun b' hne => by
    rw [List.getElem?_set_ne (Ne.symm hne), kill_loc_get]
  have hFlt := h.F_lt
  have notF : ∀ b' kk, b' ≠ b → st.loc[b']? = some kk → kk.alive = true → ∀ c, F b' c → w'.heap[c]? = w.heap[c]? := fun b' kk hne hl ha c hc =>
    hheap c (hFlt b' kk hl ha c hc) fun hbc => h.disj b' b kk k hl hk ha hal hne c hc hbc
  have hSh : ∀ c, S c → w'.heap[c]? = w.heap[c]? := fun c hc => hheap c (h.S_lt c hc) fun hbc => (h.own b k hk hal c hbc).2 hc
  have M : Moves ⟨w.heap, S, m, H, F, st.loc⟩ ⟨w'.heap, S, m', H', F', ((deadAt ds 0 st.loc).map (Blk.kill ds ns)).set b k'⟩ ds ns := by
    refine ⟨fun _ h => h, hSh, fun b' cs hd hl => ?_, fun b' pin τ xs hd hl => ?_, fun b' pin τ xs hd hn hl hsl => ?_⟩
    · replace hl : st.loc[b']? = some (.box cs) := hl
      by_cases hne : b' = b
      · subst hne
        obtain ⟨h1, h2⟩ := hkb hd
        rw [hk] at hl
        cases hl
        rcases h1 with ⟨_, cs', _, rfl⟩ | ⟨_, _, _, _, _, e, _⟩
        · exact ⟨h2, cs', getb⟩
        · cases e
      · refine ⟨(hm b' hne).1, cs.map (C.kill ds ns), ?_⟩
        show _ = _
        rw [getn b' hne, hl, (memB_false ds b').2 hd]
        rfl
    · replace hl : st.loc[b']? = some (.row pin τ xs) := hl
      by_cases hne : b' = b
      · subst hne
        obtain ⟨h1, h2⟩ := hkb hd
        rw [hk] at hl
        cases hl
        rcases h1 with ⟨_, _, e, _⟩ | ⟨p, p', τ', xs0, xs', e, rfl, hlen, hH⟩
        · cases e
        · cases e
          exact ⟨h2, hH, p', xs', getb, hlen⟩
      · refine ⟨(hm b' hne).1, (hm b' hne).2.1, pin, xs, ?_, rfl⟩
        show _ = _
        rw [getn b' hne, hl, (memB_false ds b').2 hd]
        rfl
    · replace hl : st.loc[b']? = some (.row pin τ xs) := hl
      by_cases hne : b' = b
      · subst hne
        rw [hk] at hl
        cases hl
        rw [hns hd hn pin τ xs rfl] at hsl
        cases hsl
      · exact ⟨fun c hc => by show F' b' c; rw [(hm b' hne).2.2]; exact hc, notF b' _ hne hl rfl⟩
  have hdr : ∀ b pin τ xs, st.loc[b]? = some (.row pin τ xs) → ∃ base cap, H b = .slice base xs.length cap := h.hdr
  have other : ∀ b' kk, b' ≠ b → (((deadAt ds 0 st.loc).map (Blk.kill ds ns)).set b k')[b']? = some kk → kk.alive = true → ∃ k0, b' ∉ ds ∧ st.loc[b']? = some k0 ∧ k0.alive = true ∧ kk = k0.kill ds ns := by
    intro b' kk hne hl ha
    rw [getn b' hne] at hl
    cases hl0 : st.loc[b']? with
    | none => rw [hl0] at hl; cases hl
    | some k0 =>
      rw [hl0] at hl
      cases hmem : memB ds b'
      · rw [hmem] at hl
        simp only [Option.map_some, cond_false, Option.some.injEq] at hl
        subst hl
        exact ⟨k0, (memB_false _ _).1 hmem, rfl, by rwa [kill_alive] at ha, rfl⟩
      · rw [hmem] at hl
        simp only [Option.map_some, cond_true, Option.some.injEq] at hl
        subst hl
        cases ha
  refine ⟨h.size, h.defers, fun t => ?_, fun b' kk hl => ?_, fun b' kk hl ha c hc => ?_, fun b1 b2 k1 k2 hl1 hl2 ha1 ha2 hne c hc1 hc2 => ?_, fun c hc => ⟨(h.stab c hc).1, (hSh c hc).trans (h.stab c hc).2⟩,
    Nat.le_trans h.grow hsz, hos.trans h.os, htape.trans h.tape, hout.trans h.output, fun b' τ xs hl => ?_⟩
  · show fvRel _ (look (killFr ds ns st.fr) t) _
    rw [look_kill]
    exact (h.fr t).move M hdr
  · by_cases hne : b' = b
    · subst hne
      rw [getb] at hl
      cases hl
      exact hnew
    · cases hka : kk.alive
      · cases kk <;> simp [Blk.alive] at hka; trivial
      · obtain ⟨k0, hd, hl0, ha0, rfl⟩ := other b' kk hne hl hka
        have hb0 := h.blk b' k0 hl0
        cases k0 with
        | dead => trivial
        | box cs =>
          obtain ⟨arr, te, hg, hac, hf⟩ := hb0
          refine ⟨arr, te, ?_, hac.map_left fun _ _ h => h.move M hdr, ?_⟩
          · show w'.heap[m' b']? = _
            rw [(hm b' hne).1]
            exact (notF b' _ hne hl0 rfl _ hf).trans hg
          · show F' b' (m' b')
            rw [(hm b' hne).1, (hm b' hne).2.2]; exact hf
        | row pin τ xs =>
          obtain ⟨ho, base, cap, e, hbase⟩ := hb0
          refine ⟨?_, base, cap, (hm b' hne).2.1.trans e, ?_⟩
          · show Own w'.heap S (.slice τ) xs [H' b'] (F' b')
            rw [(hm b' hne).2.1, (hm b' hne).2.2]
            exact Own.mono (fun _ h => h) hSh _ _ _ _ _ (fun _ h => h) (notF b' _ hne hl0 rfl) ho
          · show cap = 0 ∨ base = some ⟨m' b', 0, none⟩
            rw [(hm b' hne).1]; exact hbase
  · by_cases hne : b' = b
    · subst hne
      obtain ⟨h1, h2⟩ := hF c hc
      refine ⟨h2, fun hs => ?_⟩
      rcases h1 with h1 | ⟨d, kd, _, hld, had, h1⟩ | h1
      · exact (h.own b' k hk hal c h1).2 hs
      · exact (h.own d kd hld had c h1).2 hs
      · have := h.S_lt c hs; omega
    · obtain ⟨k0, hd, hl0, ha0, rfl⟩ := other b' kk hne hl ha
      rw [(hm b' hne).2.2] at hc
      have := h.own b' k0 hl0 ha0 c hc
      exact ⟨by omega, this.2⟩
  · have sep : ∀ b' kk, b' ≠ b → (((deadAt ds 0 st.loc).map (Blk.kill ds ns)).set b k')[b']? = some kk → kk.alive = true → F' b' c → F' b c → False := by
      intro b' kk hne' hl ha hc hcb
      obtain ⟨k0, hd, hl0, ha0, rfl⟩ := other b' kk hne' hl ha
      rw [(hm b' hne').2.2] at hc
      rcases (hF c hcb).1 with h1 | ⟨d, kd, hdm, hld, had, h1⟩ | h1
      · exact h.disj b' b k0 k hl0 hk ha0 hal hne' c hc h1
      · exact h.disj b' d k0 kd hl0 hld ha0 had (fun e => hd (e ▸ hdm)) c hc h1
      · have := hFlt b' k0 hl0 ha0 c hc; omega
    by_cases h1 : b1 = b
    · subst h1
      exact sep b2 k2 (Ne.symm hne) hl2 ha2 hc2 hc1
    · by_cases h2 : b2 = b
      · subst h2
        exact sep b1 k1 h1 hl1 ha1 hc1 hc2
      · obtain ⟨j1, d1, g1, a1, rfl⟩ := other b1 k1 h1 hl1 ha1
        obtain ⟨j2, d2, g2, a2, rfl⟩ := other b2 k2 h2 hl2 ha2
        rw [(hm b1 h1).2.2] at hc1
        rw [(hm b2 h2).2.2] at hc2
        exact h.disj b1 b2 j1 j2 g1 g2 a1 a2 hne c hc1 hc2
  · by_cases hne : b' = b
    · subst hne
      replace hl : (((deadAt ds 0 st.loc).map (Blk.kill ds ns)).set b' k')[b']? = some (.row true τ xs) := hl
      rw [getb] at hl
      cases hl
      obtain ⟨⟨τ0, xs0, rfl⟩, e⟩ := hpin τ xs rfl
      exact e.trans (h.pin b' τ0 xs0 hk)
    · obtain ⟨k0, hd, hl0, ha0, e⟩ := other b' _ hne hl rfl
      cases k0 with
      | dead => cases ha0
      | box cs => cases e
      | row pin τ0 xs0 =>
        cases e
        exact (hm b' hne).2.1.trans (h.pin b' τ xs hl0)
end

/-- What an operation of any kind does. -/
def SeqOK (P : Program) (o : Oper) (st st' : St) : Prop :=
  ∀ w0 S m H F a w, Rel w0 S m H F st a w → ∀ (next : Act → World → Prop) (Q : Exit → Act → World → Prop),
    (∀ a' w' m' H' F', Rel w0 S m' H' F' st' a' w' → next a' w') → o.wp P a w next Q

theorem PureOK.seq {P : Program} {o : Oper} {st : St} {v : FV} {bs : List Blk} (hd : dstOk st.n o.dst = true) (h : PureOK P o st v bs) : SeqOK P o st (st.bind o.dst v bs) :=
  fun w0 S m H F a w hr next Q hn => h w0 S m H F a w hr next Q fun _ w' m' H' F' he hf => hn _ w' m' H' F' (hr.bind he hd hf)

/-- What an operation that was not wanted leaves. -/
theorem Rel.bindGone {w0 : W0} {w : World} {S : Nat → Prop} {m : Nat → Nat} {H : Nat → Value} {F : Nat → Nat → Prop} {st : St} {a : Act} (h : Rel w0 S m H F st a w) {dst : Option Tmp} (hd : dstOk st.n dst = true) :
    Rel w0 S m H F (st.bind dst (.tup []) []) (a.put dst undef) w :=
  h.bind (Ext.refl w) hd ⟨fun _ _ => ⟨rfl, rfl, rfl⟩, ⟨#[], rfl, .nil⟩, fun j k hj => by simp at hj, fun j j' _ hj => by simp at hj, fun j τ xs hj => by simp at hj⟩

/-- Nothing but a tmp is forgotten. -/
theorem Rel.bindU {w0 : W0} {w : World} {S : Nat → Prop} {m : Nat → Nat} {H : Nat → Value} {F : Nat → Nat → Prop} {st : St} {a : Act} (h : Rel w0 S m H F st a w) {dst : Option Tmp} (hd : dstOk st.n dst = true) (u : Value) :
    Rel w0 S m H F (st.bind dst .undef []) (a.put dst u) w :=
  h.bind (Ext.refl w) hd ⟨fun _ _ => ⟨rfl, rfl, rfl⟩, trivial, fun j k hj => by simp at hj, fun j j' _ hj => by simp at hj, fun j τ xs hj => by simp at hj⟩

/-! ### stores -/
section store
variable {P : Program} {o : Oper} {st : St} {R : Type} {r : R}

theorem run_storeVar_at {t : TypeId} {ti : TI} (ok : TIOK P t ti) {w : World} {c off : Nat} {arr : Array Value} {te : TypeId} {v : Value} (hg : w.heap[c]? = some (.cells arr te (0, 0))) (hs : v.cells.size = ti.size) (hb : off + ti.size ≤ arr.size)
    (h1 : ∀ u, u ∈ v.cells.toList → u.oneCell' = true) :
    (storeVar t ⟨c, off, none⟩ v).run P w = .ok () (w.setRow c (arr.toList.take off ++ v.cells.toList ++ arr.toList.drop (off + v.cells.toList.length)).toArray) := by
  have hst := run_storeCells_at (P := P) c off te v.cells.toList 0 arr w hg (by simp; omega) h1
  unfold storeVar
  simp only [Sem.run_bind, ok.sizeOf, Result.andThen_ok, ne_eq, hs, not_true_eq_false, if_false]
  rw [Nat.add_zero] at hst
  exact hst

theorem setRow_ext (w : World) (c : Nat) (cs : Array Value) : (w.setRow c cs).heap.size = w.heap.size ∧ (∀ d, d ≠ c → (w.setRow c cs).heap[d]? = w.heap[d]?) ∧ (w.setRow c cs).os = w.os ∧ (w.setRow c cs).tape = w.tape ∧ (w.setRow c cs).output = w.output :=
  ⟨size_setRow w c cs, fun d hd => setRow_other w c d cs hd, rfl, rfl, rfl⟩

theorem all_one {Γ : Ctx} (hdr : ∀ b pin τ xs, Γ.loc[b]? = some (.row pin τ xs) → ∃ base cap, Γ.H b = .slice base xs.length cap) {cs : List C} {vs : List Value} (h : All2 (cRel Γ) cs vs) : ∀ u, u ∈ vs → u.oneCell' = true := by
  induction h with
  | nil => intro u hu; cases hu
  | cons h _ ih =>
    intro u hu
    cases hu with
    | head => exact cRel.one hdr h
    | tail _ hu => exact ih u hu

theorem ok_store_box {t : TypeId} {ti : TI} {p x : Operand} {b off : Nat} {cs vs : List C} (ok : TIOK P t ti) (ho : o.op = .store t p x) (hp : st.ev p = .v (.one (.ptr (.box b off)))) (hx : (st.ev x).cells = some vs) (hlen : vs.length = ti.size)
    (hl : st.loc[b]? = some (.box cs)) (hle : off + ti.size ≤ cs.length) (hd : dstOk st.n o.dst = true) : SeqOK P o st ((st.setBlk b (.box (putC cs off vs))).bind o.dst .undef []) := by
  intro w0 S m H F a w hr next Q hn
  have hpv : plRel ⟨w.heap, S, m, H, F, st.loc⟩ (.box b off) (a.eval p) := by
    have := ev_rel hr p
    rw [hp] at this
    exact this
  obtain ⟨ep, _⟩ := hpv
  replace ep : a.eval p = .pointer (some ⟨m b, off, none⟩) := ep
  have hvs := cells_rel hx (ev_rel hr x) hr.hdr
  obtain ⟨arr, te, hg, ha, hFb⟩ := hr.blk b _ hl
  replace hg : w.heap[m b]? = some (.cells arr te (0, 0)) := hg
  replace hFb : F b (m b) := hFb
  have hal : cs.length = arr.size := by simpa using ha.length
  have hvl : vs.length = (a.eval x).cells.size := by simpa using hvs.length
  have hcells : All2 (cRel ⟨w.heap, S, m, H, F, st.loc⟩) (putC cs off vs) (arr.toList.take off ++ (a.eval x).cells.toList ++ arr.toList.drop (off + (a.eval x).cells.toList.length)).toArray.toList := by
    show All2 _ (putC cs off vs) (arr.toList.take off ++ (a.eval x).cells.toList ++ arr.toList.drop (off + (a.eval x).cells.toList.length))
    unfold putC
    rw [hvs.length]
    exact ((ha.take off).append hvs).append (ha.drop _)
  have hrun := run_storeVar_at ok (off := off) hg (v := a.eval x) (by omega) (by omega) (all_one hr.hdr hvs)
  obtain ⟨e1, e2, e3, e4, e5⟩ := setRow_ext w (m b) (arr.toList.take off ++ (a.eval x).cells.toList ++ arr.toList.drop (off + (a.eval x).cells.toList.length)).toArray
  generalize hw' : w.setRow (m b) (arr.toList.take off ++ (a.eval x).cells.toList ++ arr.toList.drop (off + (a.eval x).cells.toList.length)).toArray = w' at *
  have hnew : w'.heap[m b]? = some (.cells (arr.toList.take off ++ (a.eval x).cells.toList ++ arr.toList.drop (off + (a.eval x).cells.toList.length)).toArray te (0, 0)) := by
    rw [← hw']; exact setRow_heap w (m b) arr _ te _ hg
  unfold Oper.wp execOp
  simp only [ho, ep, Instr.storeAt, Instr.sureAddr, Sem.run_bind, Sem.run_pure, Result.andThen_ok, hrun, Oper.upon_skip]
  have hset : ({ st with fr := killFr [] [] st.fr, loc := ((deadAt [] 0 st.loc).map (Blk.kill [] [])).set b (.box (putC cs off vs)) } : St) = st.setBlk b (.box (putC cs off vs)) := by
    have := St.kill_eq st [] []
    have h2 : (deadAt [] 0 st.loc).map (Blk.kill [] []) = st.loc := by
      have := congrArg St.loc this
      exact this.symm
    rw [h2, killFr_nil]; rfl
  have hupd := Rel.upd (w' := w') (m' := m) (H' := H) (F' := F) hr (ds := []) (ns := []) (k' := .box (putC cs off vs)) hl rfl (.inl (by simp)) (fun _ _ => ⟨rfl, rfl, rfl⟩) (by omega)
    (fun c _ hnF => e2 c fun e => hnF (e ▸ hFb)) e3 e4 e5
    (fun c hc => ⟨.inl hc, by rw [e1]; exact hr.F_lt b _ hl rfl c hc⟩) (fun _ => ⟨.inl ⟨cs, _, rfl, rfl⟩, rfl⟩) (fun _ _ pin τ xs e => by cases e) (fun τ xs e => by cases e)
    ⟨_, te, hnew, by
      have M : Moves ⟨w.heap, S, m, H, F, st.loc⟩ ⟨w'.heap, S, m, H, F, ((deadAt [] 0 st.loc).map (Blk.kill [] [])).set b (.box (putC cs off vs))⟩ [] [] := by
        have hloc := congrArg St.loc hset
        replace hloc : ((deadAt [] 0 st.loc).map (Blk.kill [] [])).set b (.box (putC cs off vs)) = st.loc.set b (.box (putC cs off vs)) := hloc
        rw [hloc]
        have hblt : b < st.loc.length := (List.getElem?_eq_some_iff.1 hl).1
        refine ⟨fun _ h => h, fun c hc => e2 c fun e => (hr.own b _ hl rfl (m b) hFb).2 (e ▸ hc), fun b' cs' _ hb' => ⟨rfl, ?_⟩, fun b' pin τ xs _ hb' => ⟨rfl, rfl, pin, xs, ?_, rfl⟩, fun b' pin τ xs _ _ hb' _ => ⟨fun _ h => h, fun c hc => e2 c fun e => ?_⟩⟩
        · by_cases hne : b' = b
          · subst hne; exact ⟨_, List.getElem?_set_self hblt⟩
          · exact ⟨cs', by show (st.loc.set b _)[b']? = _; rw [List.getElem?_set_ne (Ne.symm hne)]; exact hb'⟩
        · have hne : b' ≠ b := fun e => by subst e; replace hb' : st.loc[b']? = _ := hb'; rw [hl] at hb'; cases hb'
          show (st.loc.set b _)[b']? = _
          rw [List.getElem?_set_ne (Ne.symm hne)]; exact hb'
        · have hne : b' ≠ b := fun e => by subst e; replace hb' : st.loc[b']? = _ := hb'; rw [hl] at hb'; cases hb'
          subst e
          exact hr.disj b' b _ _ hb' hl rfl rfl hne _ hc hFb
      exact hcells.imp fun _ _ h => h.same M, hFb⟩
  rw [hset] at hupd
  exact hn _ w' m H F (hupd.bindU hd undef)

end store
end Go.Fw
