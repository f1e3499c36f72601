/- A call that changes what it is lent is what the machine does. No condition. -/
import Derived.Test.YtcbpdhhipkdofaaFwMut2
namespace Go.Fw

theorem Rel.killed {w0 : W0} {w : World} {S : Nat → Prop} {m : Nat → Nat} {H : Nat → Value} {F : Nat → Nat → Prop} {st : St} {a : Act} (h : Rel w0 S m H F st a w) (ds ns : List Nat) :
    Rel w0 S m H F (st.kill ds ns) a w ∧ Moves ⟨w.heap, S, m, H, F, st.loc⟩ ⟨w.heap, S, m, H, F, (st.kill ds ns).loc⟩ ds ns := by
  have hst := St.kill_eq st ds ns
  have getM : ∀ b, ((st.kill ds ns).loc)[b]? = (st.loc[b]?).map fun k => (bif memB ds b then Blk.dead else k).kill ds ns := fun b => by rw [hst]; exact kill_loc_get ds ns st.loc b
  have M : Moves ⟨w.heap, S, m, H, F, st.loc⟩ ⟨w.heap, S, m, H, F, (st.kill ds ns).loc⟩ ds ns := by
    refine ⟨fun _ h => h, fun _ _ => rfl, fun b cs hb hl => ⟨rfl, cs.map (C.kill ds ns), ?_⟩, fun b pin τ xs hb hl => ⟨rfl, rfl, pin, xs, ?_, rfl⟩, fun b pin τ xs hb hn hl _ => ⟨fun _ h => h, fun _ _ => rfl⟩⟩
    · show (st.kill ds ns).loc[b]? = _
      rw [getM, show st.loc[b]? = _ from hl, Option.map_some, (memB_false _ _).2 hb]; rfl
    · show (st.kill ds ns).loc[b]? = _
      rw [getM, show st.loc[b]? = _ from hl, Option.map_some, (memB_false _ _).2 hb]; rfl
  have hdr : ∀ b pin τ xs, st.loc[b]? = some (.row pin τ xs) → ∃ base cap, H b = .slice base xs.length cap := h.hdr
  have other : ∀ b (k : Blk), (st.kill ds ns).loc[b]? = some k → k.alive = true → ∃ k0, b ∉ ds ∧ st.loc[b]? = some k0 ∧ k0.alive = true ∧ k = k0.kill ds ns := by
    intro b k hl ha
    rw [getM] at hl
    cases hl0 : st.loc[b]? with
    | none => rw [hl0] at hl; cases hl
    | some k0 =>
      rw [hl0] at hl
      cases hmem : memB ds b
      · rw [hmem] at hl
        simp only [Option.map_some, cond_false, Option.some.injEq] at hl
        subst hl
        exact ⟨k0, (memB_false _ _).1 hmem, rfl, by rwa [kill_alive] at ha, rfl⟩
      · rw [hmem] at hl
        simp only [Option.map_some, cond_true, Option.some.injEq] at hl
        subst hl
        cases ha
  refine ⟨⟨?_, h.defers, fun t => ?_, fun b k hk => ?_, fun b k hk ha c hc => ?_, fun b b' k k' hk hk' ha ha' hne => ?_, h.stab, h.grow, h.os, h.tape, h.output, fun b τ xs hk => ?_⟩, M⟩
  · rw [hst]; exact h.size
  · have : (st.kill ds ns).fr = killFr ds ns st.fr := by rw [hst]
    rw [this, look_kill]
    exact (h.fr t).move M hdr
  · cases hka : k.alive
    · cases k <;> simp [Blk.alive] at hka; trivial
    · obtain ⟨k0, hd, hl0, ha0, rfl⟩ := other b k hk hka
      have hb0 := h.blk b k0 hl0
      cases k0 with
      | dead => trivial
      | box cs =>
        obtain ⟨arr, te, hg, hac, hf⟩ := hb0
        exact ⟨arr, te, hg, hac.map_left fun _ _ h => h.move M hdr, hf⟩
      | row pin τ xs => exact hb0
  · obtain ⟨k0, hd, hl0, ha0, rfl⟩ := other b k hk ha
    exact h.own b k0 hl0 ha0 c hc
  · obtain ⟨k0, hd, hl0, ha0, rfl⟩ := other b k hk ha
    obtain ⟨k1, hd1, hl1, ha1, rfl⟩ := other b' k' hk' ha'
    exact h.disj b b' k0 k1 hl0 hl1 ha0 ha1 hne
  · obtain ⟨k0, hd, hl0, ha0, e⟩ := other b _ hk rfl
    cases k0 with
    | dead => cases e
    | box cs => cases e
    | row pin τ0 xs0 => cases e; exact h.pin b _ _ hl0

/-- New blocks in a world that stays. -/
theorem Rel.more {w0 : W0} {w : World} {S : Nat → Prop} {m m' : Nat → Nat} {H H' : Nat → Value} {F F' : Nat → Nat → Prop} {st : St} {a : Act} (h : Rel w0 S m H F st a w) {dst : Option Tmp} {v : FV} {v' : Value} {bs : List Blk} (hd : dstOk st.n dst = true)
    (f1 : ∀ b, b < st.loc.length → m' b = m b ∧ H' b = H b ∧ F' b = F b) (f2 : fvRel ⟨w.heap, S, m', H', F', st.loc ++ bs⟩ v v')
    (f3 : ∀ j k, bs[j]? = some k → blkRel ⟨w.heap, S, m', H', F', st.loc ++ bs⟩ (st.loc.length + j) k ∧ ∀ c, F' (st.loc.length + j) c → c < w.heap.size ∧ ¬ S c ∧ ∀ b k, st.loc[b]? = some k → k.alive = true → ¬ F b c)
    (f4 : ∀ j j', j ≠ j' → j < bs.length → j' < bs.length → ∀ c, F' (st.loc.length + j) c → ¬ F' (st.loc.length + j') c)
    (f5 : ∀ (j : Nat) (τ : Ty) (xs : List τ.D), bs[j]? = some (Blk.row true τ xs) → False) : Rel w0 S m' H' F' (st.bind dst v bs) (a.put dst v') w := by
  have M : Moves ⟨w.heap, S, m, H, F, st.loc⟩ ⟨w.heap, S, m', H', F', st.loc ++ bs⟩ [] [] := Moves.more f1
  have hsz : (a.put dst v').tmps.size = a.tmps.size := by cases dst <;> simp [Act.put]
  have old : ∀ t, fvRel ⟨w.heap, S, m', H', F', st.loc ++ bs⟩ (look st.fr t) (a.tmps.getD t undef) := fun t => (h.fr t).same M
  have new : ∀ b k, (st.loc ++ bs)[b]? = some k → b < st.loc.length ∧ st.loc[b]? = some k ∨ ∃ j, b = st.loc.length + j ∧ bs[j]? = some k := by
    intro b k hk
    rcases Nat.lt_or_ge b st.loc.length with hlt | hge
    · rw [getElem?_append_lt hlt] at hk; exact .inl ⟨hlt, hk⟩
    · rw [List.getElem?_append_right hge] at hk; exact .inr ⟨b - st.loc.length, by omega, hk⟩
  refine ⟨hsz.trans h.size, by cases dst <;> exact h.defers, ?_, ?_, ?_, ?_, h.stab, h.grow, h.os, h.tape, h.output, ?_⟩
  · intro t
    cases dst with
    | none => exact old t
    | some d =>
      have hlt : d < a.tmps.size := by rw [h.size]; simpa [dstOk, Nat.blt_eq] using hd
      show fvRel _ (look ((d, v) :: st.fr) t) _
      simp only [look]
      cases hb : Nat.beq d t
      · have hne : d ≠ t := fun e => by subst e; simp at hb
        rw [getD_put_ne a d t v' undef hne]
        exact old t
      · have he : d = t := Nat.eq_of_beq_eq_true hb
        subst he
        rw [getD_put_same a d v' undef hlt]
        exact f2
  · intro b k hk
    rcases new b k hk with ⟨hlt, hk'⟩ | ⟨j, rfl, hj⟩
    · exact (h.blk b k hk').same M (f1 b hlt) (fun _ _ => rfl)
    · exact (f3 j k hj).1
  · intro b k hk hal c hc
    rcases new b k hk with ⟨hlt, hk'⟩ | ⟨j, rfl, hj⟩
    · rw [(f1 b hlt).2.2] at hc
      exact h.own b k hk' hal c hc
    · have := (f3 j k hj).2 c hc
      exact ⟨this.1, this.2.1⟩
  · intro b b' k k' hk hk' ha ha' hne c hc hc'
    rcases new b k hk with ⟨hlt, hk1⟩ | ⟨j, rfl, hj⟩ <;> rcases new b' k' hk' with ⟨hlt', hk1'⟩ | ⟨j', rfl, hj'⟩
    · rw [(f1 b hlt).2.2] at hc
      rw [(f1 b' hlt').2.2] at hc'
      exact h.disj b b' k k' hk1 hk1' ha ha' hne c hc hc'
    · rw [(f1 b hlt).2.2] at hc
      exact ((f3 j' k' hj').2 c hc').2.2 b k hk1 ha hc
    · rw [(f1 b' hlt').2.2] at hc'
      exact ((f3 j k hj).2 c hc).2.2 b' k' hk1' ha' hc'
    · exact f4 j j' (by omega) (List.getElem?_eq_some_iff.1 hj).1 (List.getElem?_eq_some_iff.1 hj').1 c hc hc'
  · intro b τ xs hb
    rcases new b _ hb with ⟨hlt, hk⟩ | ⟨j, rfl, hj⟩
    · exact (f1 b hlt).2.1.trans (h.pin b τ xs hk)
    · exact (f5 j τ xs hj).elim

theorem backD_length : (τ : Ty) → (y : τ.D) → (cs : List C) → (loc : List Blk) → (backD τ y cs loc).length = loc.length
  | .int _, _, _, _ => rfl
  | .bool, _, _, _ => rfl
  | .flt _, _, _, _ => rfl
  | .str, _, _, _ => rfl
  | .unit, _, _, _ => rfl
  | .rslice _, _, _, _ => rfl
  | .ref _, _, _, _ => rfl
  | .fn _, _, _, _ => rfl
  | .pair a b, y, cs, loc => by simp only [backD]; rw [backD_length b, backD_length a]
  | .slice e, y, cs, loc => by
    unfold backD
    split
    · rename_i h1 h2 h3; cases h2
    · split <;> simp
    · split
      · split <;> simp
      · rfl
    · rfl

theorem backP_length (p : PTy) (y : p.D) (fv : FV) (loc : List Blk) : (backP p y fv loc).length = loc.length := by
  unfold backP
  split
  · exact backD_length _ _ _ _
  · exact backD_length _ _ _ _
  · rfl

theorem backPs_length : (ps : List PTy) → (ds : PD ps) → (fvs : List FV) → (loc : List Blk) → (backPs ps ds fvs loc).length = loc.length
  | [], _, [], _ => rfl
  | [], _, _ :: _, _ => rfl
  | _ :: _, _, [], _ => rfl
  | p :: r, ds, v :: vs, loc => by simp only [backPs]; rw [backPs_length r, backP_length]

/-- Two arguments' rows, one behind the other. -/
theorem Back.comp {Γ : Ctx} {h' : Heap} {loc0 loc1 loc2 : List Blk} {l1 l2 : List Nat} {Fa Fb G1 G2 F1 Ft : Nat → Prop} {Na Nb : Nat → Nat → Prop} (hn : (l1 ++ l2).Nodup)
    (hlt1 : ∀ b, b ∈ l1 → ∀ c, Γ.F b c → c < Γ.h.size) (hlt2 : ∀ b, b ∈ l2 → ∀ c, Γ.F b c → c < Γ.h.size) (apart : ∀ c, rowsF Γ.F l1 c → ¬ rowsF Γ.F l2 c) (sa : ∀ c, Fa c → rowsF Γ.F l1 c) (sb : ∀ c, Fb c → rowsF Γ.F l2 c)
    (hnt : ∀ c, rowsF Γ.F (l1 ++ l2) c → ¬ (Fa c ∨ Fb c) → ¬ Ft c) (hF1 : ∀ c, F1 c → Ft c ∨ Γ.h.size ≤ c) (s1 : ∀ c, G1 c → F1 c) (s2 : ∀ c, G2 c → F1 c) (d : ∀ c, G1 c → ¬ G2 c)
    (Ba : Back Γ h' loc0 loc1 l1 Fa G1 Na) (Bb : Back Γ h' loc1 loc2 l2 Fb G2 Nb) : ∃ Fn, Back Γ h' loc0 loc2 (l1 ++ l2) (fun c => Fa c ∨ Fb c) F1 Fn := by
  have hn' := List.nodup_append.1 hn
  have mem : ∀ b', b' ∈ l1 ++ l2 → (b' ∈ l1 ∧ b' ∉ l2) ∨ (b' ∈ l2 ∧ b' ∉ l1) := fun b' hm => by
    rcases List.mem_append.1 hm with h1 | h1
    · exact .inl ⟨h1, fun h2 => hn'.2.2 b' h1 b' h2 rfl⟩
    · exact .inr ⟨h1, fun h2 => hn'.2.2 b' h2 b' h1 rfl⟩
  have keepB : ∀ b', b' ∈ l2 → ∀ c, G1 c → Γ.F b' c → ¬ Fb c → False := fun b' h1 c hg hf hnb => by
    rcases hF1 c (s1 c hg) with h2 | h2
    · exact hnt c ⟨b', by simp [h1], hf⟩ (fun hx => hx.elim (fun hx => apart c (sa c hx) ⟨b', h1, hf⟩) hnb) h2
    · have := hlt2 b' h1 c hf; omega
  have keepA : ∀ b', b' ∈ l1 → ∀ c, G2 c → Γ.F b' c → ¬ Fa c → False := fun b' h1 c hg hf hna => by
    rcases hF1 c (s2 c hg) with h2 | h2
    · exact hnt c ⟨b', by simp [h1], hf⟩ (fun hx => hx.elim hna fun hx => apart c ⟨b', h1, hf⟩ (sb c hx)) h2
    · have := hlt1 b' h1 c hf; omega
  have cross : ∀ b1 b2, b1 ∈ l1 → b2 ∈ l2 → ∀ c, Na b1 c → ¬ Nb b2 c := fun b1 b2 h1 h2 c hc1 hc2 => by
    rcases Ba.sub b1 h1 c hc1 with h3 | ⟨h3, h3'⟩ <;> rcases Bb.sub b2 h2 c hc2 with h4 | ⟨h4, h4'⟩
    · exact d c h3 h4
    · exact keepB b2 h2 c h3 h4 h4'
    · exact keepA b1 h1 c h4 h3 h3'
    · exact apart c ⟨b1, h1, h3⟩ ⟨b2, h2, h4⟩
  refine ⟨fun b' => bif memB l1 b' then Na b' else Nb b', ⟨fun b' hm c hc => ?_, fun b1 b2 hm1 hm2 hne c hc1 hc2 => ?_, fun b' hm => ?_, fun b' hm => ?_⟩⟩
  · rcases mem b' hm with ⟨h1, _⟩ | ⟨h1, h2⟩
    · rw [(memB_iff _ _).2 h1] at hc
      rcases Ba.sub b' h1 c hc with h3 | ⟨h3, h4⟩
      · exact .inl (s1 c h3)
      · exact .inr ⟨h3, fun hx => hx.elim h4 fun hx => apart c ⟨b', h1, h3⟩ (sb c hx)⟩
    · rw [(memB_false _ _).2 h2] at hc
      rcases Bb.sub b' h1 c hc with h3 | ⟨h3, h4⟩
      · exact .inl (s2 c h3)
      · exact .inr ⟨h3, fun hx => hx.elim (fun hx => apart c (sa c hx) ⟨b', h1, h3⟩) h4⟩
  · rcases mem b1 hm1 with ⟨h1, _⟩ | ⟨h1, h1'⟩ <;> rcases mem b2 hm2 with ⟨h2, _⟩ | ⟨h2, h2'⟩
    · rw [(memB_iff _ _).2 h1] at hc1; rw [(memB_iff _ _).2 h2] at hc2
      exact Ba.disj b1 b2 h1 h2 hne c hc1 hc2
    · rw [(memB_iff _ _).2 h1] at hc1; rw [(memB_false _ _).2 h2'] at hc2
      exact cross b1 b2 h1 h2 c hc1 hc2
    · rw [(memB_false _ _).2 h1'] at hc1; rw [(memB_iff _ _).2 h2] at hc2
      exact cross b2 b1 h2 h1 c hc2 hc1
    · rw [(memB_false _ _).2 h1'] at hc1; rw [(memB_false _ _).2 h2'] at hc2
      exact Bb.disj b1 b2 h1 h2 hne c hc1 hc2
  · rcases mem b' hm with ⟨h1, h2⟩ | ⟨h1, h2⟩
    · obtain ⟨pin, τ, xs, xs', e1, e2, e3, e4⟩ := Ba.row b' h1
      refine ⟨pin, τ, xs, xs', e1, (Bb.other b' h2).trans e2, e3, ?_⟩
      rw [(memB_iff _ _).2 h1]; exact e4
    · obtain ⟨pin, τ, xs, xs', e1, e2, e3, e4⟩ := Bb.row b' h1
      refine ⟨pin, τ, xs, xs', e1, e2, e3, ?_⟩
      rw [(memB_false _ _).2 h2]; exact e4
  · have h1 : b' ∉ l1 := fun hx => hm (List.mem_append.2 (.inl hx))
    have h2 : b' ∉ l2 := fun hx => hm (List.mem_append.2 (.inr hx))
    exact (Bb.other b' h2).trans (Ba.other b' h1)

/-- Arguments of a call that changes what it is lent. Δ: the context without the lent rows. -/
structure LentP (Γ Δ : Ctx) (p : PTy) (fv : FV) (x : p.D) (l : List Nat) (v : Value) (F0 : Nat → Prop) : Prop where
  arg : ∀ T : Nat → Prop, (∀ b k, Δ.loc[b]? = some k → k.alive = true → ∀ c, Δ.F b c → T c) → (∀ c, Δ.S c → T c) → ArgRel Γ.h T p x v F0
  sub : ∀ c, F0 c → rowsF Γ.F l c
  rows : ∀ b, b ∈ l → ∃ pin τ xs, Γ.loc[b]? = some (.row pin τ xs)
  back : ∀ (h' : Heap) (T Ft : Nat → Prop) (y : p.D) (F1 : Nat → Prop) (loc0 : List Blk), Behind Γ h' Ft → (∀ c, F0 c → Ft c) → (∀ c, rowsF Γ.F l c → ¬ F0 c → ¬ Ft c) → (∀ c, F1 c → Ft c ∨ Γ.h.size ≤ c) →
    ArgRel h' T p y v F1 → (∀ b, b ∈ l → loc0[b]? = Γ.loc[b]?) → ∃ Fn, Back Γ h' loc0 (backP p y fv loc0) l F0 F1 Fn

structure LentPs (Γ Δ : Ctx) (ps : List PTy) (fvs : List FV) (ds : PD ps) (l : List Nat) (vs : List Value) (F0 : Nat → Prop) : Prop where
  arg : ∀ T : Nat → Prop, (∀ b k, Δ.loc[b]? = some k → k.alive = true → ∀ c, Δ.F b c → T c) → (∀ c, Δ.S c → T c) → ArgsRel Γ.h T ps ds vs F0
  sub : ∀ c, F0 c → rowsF Γ.F l c
  rows : ∀ b, b ∈ l → ∃ pin τ xs, Γ.loc[b]? = some (.row pin τ xs)
  back : ∀ (h' : Heap) (T Ft : Nat → Prop) (y : PD ps) (F1 : Nat → Prop) (loc0 : List Blk), Behind Γ h' Ft → (∀ c, F0 c → Ft c) → (∀ c, rowsF Γ.F l c → ¬ F0 c → ¬ Ft c) → (∀ c, F1 c → Ft c ∨ Γ.h.size ≤ c) →
    ArgsRel h' T ps y vs F1 → (∀ b, b ∈ l → loc0[b]? = Γ.loc[b]?) → ∃ Fn, Back Γ h' loc0 (backPs ps y fvs loc0) l F0 F1 Fn

section
variable {Γ Δ : Ctx} (hb : ∀ b k, Γ.loc[b]? = some k → blkRel Γ b k) (hd : ∀ b b' k k', Γ.loc[b]? = some k → Γ.loc[b']? = some k' → k.alive = true → k'.alive = true → b ≠ b' → ∀ c, Γ.F b c → ¬ Γ.F b' c)
  (hlt : ∀ b k, Γ.loc[b]? = some k → k.alive = true → ∀ c, Γ.F b c → c < Γ.h.size) (hdr : ∀ b pin τ xs, Γ.loc[b]? = some (.row pin τ xs) → ∃ base cap, Γ.H b = .slice base xs.length cap)
  {used : List Nat} (eΔ : Δ = ⟨Γ.h, Γ.S, Γ.m, Γ.H, Γ.F, (deadAt used 0 Γ.loc).map (Blk.kill used [])⟩) (hbΔ : ∀ b k, Δ.loc[b]? = some k → blkRel Δ b k) (hdrΔ : ∀ b pin τ xs, Δ.loc[b]? = some (.row pin τ xs) → ∃ base cap, Δ.H b = .slice base xs.length cap)

include eΔ hbΔ hdrΔ in
theorem ro_lent {p : PTy} {fv : FV} {x : p.D} {v : Value} (hp : ∀ y loc0, backP p y fv loc0 = loc0) (hm : argD ((deadAt used 0 Γ.loc).map (Blk.kill used [])) p (fv.kill used []) = some x)
    (hr : fvRel Δ (fv.kill used []) v) : LentP Γ Δ p fv x [] v (fun _ => False) := by
  refine ⟨fun T h1 h2 => ?_, fun _ h => h.elim, fun _ hb => (nomatch hb), fun h' T Ft y F1 loc0 _ _ _ _ _ _ => ⟨fun _ _ => False, by rw [hp]; exact Back.nil _ _ _ _ _⟩⟩
  have := argD_rel (Γ := Δ) (T := T) hbΔ h1 h2 hdrΔ (p := p) (fv := fv.kill used []) (x := x) (v := v) (by rw [eΔ]; exact hm) hr
  rw [eΔ] at this
  exact this

include hb hd hlt hdr eΔ hbΔ hdrΔ in
theorem usedP_lent {p : PTy} {fv : FV} {x : p.D} {l : List Nat} {v : Value} (hu : usedP Γ.loc p fv = some l) (hn : l.Nodup) (hm : mutD Γ.loc used p fv = some x) (hr : fvRel Γ fv v) (hrΔ : fvRel Δ (fv.kill used []) v) :
    ∃ F0, LentP Γ Δ p fv x l v F0 := by
  cases p with
  | own ag τ =>
    unfold usedP at hu
    split at hu
    · rename_i σ c e
      cases e
      obtain ⟨hno, hu⟩ := bif_some hu
      split at hu
      · rename_i y l' ho
        cases hu
        simp only [mutD, ho, Option.some.injEq] at hm
        subst hm
        obtain ⟨F0, L⟩ := ownArg_lent hb hd hlt τ [c] y l [v] ho hn (.cons hr .nil)
        refine ⟨F0, fun T _ _ => ⟨Own.noR _ _ _ _ hno L.own, cRel.one hdr hr⟩, L.sub, L.rows, fun h' T Ft y F1 loc0 h1 h2 h3 h4 h5 h6 => ?_⟩
        exact L.back h' Ft y F1 loc0 h1 h2 h3 h4 (Own.noR _ _ _ _ hno h5.1) h6
      · cases hu
    · rename_i σ cs e
      cases e
      obtain ⟨hno, hu⟩ := bif_some hu
      split at hu
      · rename_i y l' ho
        cases hu
        simp only [mutD, ho, Option.some.injEq] at hm
        subst hm
        obtain ⟨arr, rfl, ha⟩ := hr
        obtain ⟨F0, L⟩ := ownArg_lent hb hd hlt τ cs y l arr.toList ho hn ha
        refine ⟨F0, fun T _ _ => ⟨arr, rfl, Own.noR _ _ _ _ hno L.own⟩, L.sub, L.rows, fun h' T Ft y F1 loc0 h1 h2 h3 h4 h5 h6 => ?_⟩
        obtain ⟨arr', e, h5⟩ := h5
        cases e
        exact L.back h' Ft y F1 loc0 h1 h2 h3 h4 (Own.noR _ _ _ _ hno h5) h6
      · cases hu
    · cases hu
    · rename_i e; cases e
    · simp_all
  | optr τ => cases hu
  | ro ag τ => cases hu; exact ⟨_, ro_lent eΔ hbΔ hdrΔ (fun y loc0 => rfl) hm hrΔ⟩
  | rptr τ => cases hu; exact ⟨_, ro_lent eΔ hbΔ hdrΔ (fun y loc0 => rfl) hm hrΔ⟩
  | fnc f caps => cases hu; exact ⟨_, ro_lent eΔ hbΔ hdrΔ (fun y loc0 => rfl) hm hrΔ⟩

include hb hd hlt hdr eΔ hbΔ hdrΔ in
theorem usedPs_lent : ∀ (ps : List PTy) (fvs : List FV) (ds : PD ps) (l : List Nat) (vs : List Value), usedPs Γ.loc ps fvs = some l → l.Nodup → mutsD Γ.loc used ps fvs = some ds → All2 (fvRel Γ) fvs vs → All2 (fvRel Δ) (fvs.map (FV.kill used [])) vs →
    ∃ F0, LentPs Γ Δ ps fvs ds l vs F0
  | [], [], ds, l, vs, hu, hn, hm, ha, _ => by
    cases ha
    cases hu
    exact ⟨fun _ => False, fun _ _ _ => rfl, fun _ h => h.elim, fun _ hb => (nomatch hb), fun h' T Ft y F1 loc0 _ _ _ _ _ _ => ⟨fun _ _ => False, Back.nil _ _ _ _ _⟩⟩
  | [], _ :: _, ds, l, vs, hu, hn, hm, ha, _ => by cases hu
  | _ :: _, [], ds, l, vs, hu, hn, hm, ha, _ => by cases hu
  | p :: r, fv :: fvs, ds, l, vs, hu, hn, hm, ha, haΔ => by
    simp only [usedPs] at hu
    split at hu
    · rename_i l1 l2 hu1 hu2
      cases hu
      simp only [mutsD] at hm
      split at hm
      · rename_i x y hm1 hm2
        cases hm
        cases ha with
        | cons h1 t =>
          cases haΔ with
          | cons h1Δ tΔ =>
            rename_i v vr
            have hn' := List.nodup_append.1 hn
            obtain ⟨Fa, La⟩ := usedP_lent hb hd hlt hdr eΔ hbΔ hdrΔ hu1 hn'.1 hm1 h1 h1Δ
            obtain ⟨Fb, Lb⟩ := usedPs_lent r fvs y l2 vr hu2 hn'.2.1 hm2 t tΔ
            have apart : ∀ c, rowsF Γ.F l1 c → ¬ rowsF Γ.F l2 c := by
              rintro c ⟨b1, h1, h2⟩ ⟨b2, h3, h4⟩
              obtain ⟨_, _, _, e1⟩ := La.rows b1 h1
              obtain ⟨_, _, _, e2⟩ := Lb.rows b2 h3
              exact hd b1 b2 _ _ e1 e2 rfl rfl (hn'.2.2 b1 h1 b2 h3) c h2 h4
            refine ⟨fun c => Fa c ∨ Fb c, fun T hT1 hT2 => ⟨v, vr, Fa, Fb, rfl, La.arg T hT1 hT2, Lb.arg T hT1 hT2, fun _ h => .inl h, fun _ h => .inr h, fun c h1 h2 => apart c (La.sub c h1) (Lb.sub c h2)⟩, ?_, ?_, ?_⟩
            · rintro c (hc | hc)
              · obtain ⟨b', h1, h2⟩ := La.sub c hc; exact ⟨b', by simp [h1], h2⟩
              · obtain ⟨b', h1, h2⟩ := Lb.sub c hc; exact ⟨b', by simp [h1], h2⟩
            · intro b' hb'
              rcases List.mem_append.1 hb' with hb' | hb'
              · exact La.rows b' hb'
              · exact Lb.rows b' hb'
            · intro h' T Ft z F1 loc0 hbh hF0 hnt hF1 hz h0
              obtain ⟨v', vr', G1, G2, e, z1, z2, s1, s2, d⟩ := hz
              cases e
              obtain ⟨Na, Ba⟩ := La.back h' T Ft z.1 G1 loc0 hbh (fun c hc => hF0 c (.inl hc)) (fun c ⟨b', h1, h2⟩ hx => hnt c ⟨b', by simp [h1], h2⟩ fun hy => hy.elim hx fun hy => apart c ⟨b', h1, h2⟩ (Lb.sub c hy)) (fun c hc => hF1 c (s1 c hc)) z1
                (fun b' hb' => h0 b' (List.mem_append.2 (.inl hb')))
              obtain ⟨Nb, Bb⟩ := Lb.back h' T Ft z.2 G2 (backP p z.1 fv loc0) hbh (fun c hc => hF0 c (.inr hc)) (fun c ⟨b', h1, h2⟩ hx => hnt c ⟨b', by simp [h1], h2⟩ fun hy => hy.elim (fun hy => apart c (La.sub c hy) ⟨b', h1, h2⟩) hx) (fun c hc => hF1 c (s2 c hc)) z2
                (fun b' hb' => (Ba.other b' fun hm => hn'.2.2 b' hm b' hb' rfl).trans (h0 b' (List.mem_append.2 (.inr hb'))))
              exact Back.comp hn (fun b' h1 c hc => by obtain ⟨_, _, _, e⟩ := La.rows b' h1; exact hlt b' _ e rfl c hc) (fun b' h1 c hc => by obtain ⟨_, _, _, e⟩ := Lb.rows b' h1; exact hlt b' _ e rfl c hc)
                apart La.sub Lb.sub hnt hF1 s1 s2 d Ba Bb
      · cases hm
    · cases hu
end

section
variable {P : Program} {o : Oper} {st : St} {R : Type} {r : R}

theorem callMut_sound {c : Call} {g : Operand} {f : FuncId} {caps : List Place} {k : St → Option R} (ho : o.op = .call c) (hc : c.callee = .value g) (hg : st.ev g = .v (.one (.fn f caps))) (hdst : dstOk st.n o.dst = true) :
    ∀ (l : List FX), (∀ fx, fx ∈ l → FxOK P f fx) → callMut st (evs st c.args.toList ++ caps.map fun p => .v (.one (.ptr p))) o.dst k l = some r → ∃ st', k st' = some r ∧ st'.n = st.n ∧ SeqOK P o st st'
  | [], _, h => by cases h
  | fx :: l, hl, h => by
    simp only [callMut] at h
    split at h
    · rename_i used hused
      obtain ⟨hnd, h⟩ := bif_some h
      have hnd := (nodupB_iff _).1 hnd
      split at h
      · rename_i ds hds
        cases hrun : fx.run ds with
        | none => rw [hrun] at h; cases h
        | some out =>
          rw [hrun] at h
          simp only [Option.bind_some] at h
          refine ⟨_, h, ?_, ?_⟩
          · show ({ st with loc := _ }.kill [] used : St).n = st.n
            rw [St.kill_eq]
          intro w0 S m H F a w hr next Q hn
          have hgv : ∃ vs : Array Value, a.eval g = .func (.func f) #[] vs ∧ All2 (plRel ⟨w.heap, S, m, H, F, st.loc⟩) caps vs.toList := by
            have := ev_rel hr g
            rw [hg] at this
            exact this
          obtain ⟨vs, eg, hcaps⟩ := hgv
          have hall : All2 (fvRel ⟨w.heap, S, m, H, F, st.loc⟩) (evs st c.args.toList ++ caps.map fun p => .v (.one (.ptr p))) (c.args.toList.map a.eval ++ vs.toList) :=
            (evs_rel hr c.args.toList).append (hcaps.map_left fun _ _ h => h)
          obtain ⟨hk, M⟩ := hr.killed used []
          have eloc : (st.kill used []).loc = (deadAt used 0 st.loc).map (Blk.kill used []) := by rw [St.kill_eq]
          rw [eloc] at M
          have hdr : ∀ b pin τ xs, st.loc[b]? = some (.row pin τ xs) → ∃ base cap, H b = .slice base xs.length cap := hr.hdr
          have hkblk := hk.blk
          have hkhdr := hk.hdr
          rw [eloc] at hkblk hkhdr
          obtain ⟨F0, L⟩ := usedPs_lent (Γ := ⟨w.heap, S, m, H, F, st.loc⟩) (Δ := ⟨w.heap, S, m, H, F, (deadAt used 0 st.loc).map (Blk.kill used [])⟩) hr.blk hr.disj hr.F_lt hdr rfl hkblk hkhdr fx.ps _ ds used _ hused hnd hds hall
            (hall.map_left fun _ _ h => h.move M hdr)
          have hrows : ∀ b, b ∈ used → ∃ pin τ xs, st.loc[b]? = some (.row pin τ xs) := L.rows
          have hsub : ∀ c, F0 c → rowsF F used c := L.sub
          have usedlt : ∀ b, b ∈ used → ∀ c, F b c → c < w.heap.size := fun b h1 c hc => by
            obtain ⟨_, _, _, e⟩ := hrows b h1; exact hr.F_lt b _ e rfl c hc
          have hS0 : ∀ c, S c → ¬ F0 c := fun c hc hf => by
            obtain ⟨b, h1, h2⟩ := hsub c hf
            obtain ⟨_, _, _, e⟩ := hrows b h1
            exact (hr.own b _ e rfl c h2).2 hc
          have hargs := L.arg (fun c => c < w.heap.size ∧ ¬ F0 c)
            (fun b k hb ha c hc => by
              replace hb : ((deadAt used 0 st.loc).map (Blk.kill used []))[b]? = some k := hb
              rw [kill_loc_get] at hb
              cases hl0 : st.loc[b]? with
              | none => rw [hl0] at hb; cases hb
              | some k0 =>
                rw [hl0] at hb
                cases hmem : memB used b
                · rw [hmem] at hb
                  simp only [Option.map_some, cond_false, Option.some.injEq] at hb
                  subst hb
                  rw [kill_alive] at ha
                  refine ⟨hr.F_lt b k0 hl0 ha c hc, fun hf => ?_⟩
                  obtain ⟨b', h1, h2⟩ := hsub c hf
                  obtain ⟨_, _, _, e⟩ := hrows b' h1
                  exact hr.disj b b' k0 _ hl0 e ha rfl (fun e => (memB_false _ _).1 hmem (e ▸ h1)) c hc h2
                · rw [hmem] at hb
                  simp only [Option.map_some, cond_true, Option.some.injEq] at hb
                  subst hb
                  cases ha)
            (fun c hc => ⟨hr.S_lt c hc, hS0 c hc⟩)
          have hland := hl fx (by simp) w _ ds out F0 (fun c hc => by obtain ⟨b, h1, h2⟩ := hsub c hc; exact usedlt b h1 c h2) hargs hrun
          unfold Oper.wp execOp
          simp only [ho, resolve, hc, eg, Deferred.ofValue, Sem.run_bind, Sem.run_pure, Result.andThen_ok, invoke]
          have eargs : #[] ++ c.args.map a.eval ++ vs = (c.args.toList.map a.eval ++ vs.toList).toArray := by
            apply Array.ext'
            simp
          rw [eargs]
          refine hland o a next Q ?_
          rintro v w' ⟨hsz, hheap, hos, htape, hout, Fr, F1, hres, hargs', hFr, hF1, hdj⟩
          obtain ⟨Fn, B⟩ := L.back w'.heap _ F0 out.2 F1 st.loc ⟨fun c hc => hheap c (hr.S_lt c hc) (hS0 c hc), fun c h1 h2 => hheap c h1 h2⟩ (fun _ h => h) (fun _ _ h => h) (fun c hc => (hF1 c hc).1) hargs' (fun _ _ => rfl)
          have hbsub : ∀ b, b ∈ used → ∀ c, Fn b c → F1 c ∨ (F b c ∧ ¬ F0 c) := B.sub
          have hFnlt : ∀ b, b ∈ used → ∀ c, Fn b c → ((∃ b', b' ∈ used ∧ F b' c) ∨ w.heap.size ≤ c) ∧ c < w'.heap.size := fun b h1 c hc => by
            rcases hbsub b h1 c hc with h2 | h2
            · obtain ⟨h3, h4⟩ := hF1 c h2
              refine ⟨h3.imp (fun h3 => ?_) id, h4⟩
              obtain ⟨b', h5, h6⟩ := hsub c h3
              exact ⟨b', h5, h6⟩
            · exact ⟨.inl ⟨b, h1, h2.1⟩, Nat.lt_of_lt_of_le (usedlt b h1 c h2.1) hsz⟩
          have hupd := Rel.upds (w' := w') (F' := fun b => bif memB used b then Fn b else F b) hr (used := used) (loc' := backPs fx.ps out.2 (evs st c.args.toList ++ caps.map fun p => .v (.one (.ptr p))) st.loc)
            (fun b hb => by rw [(memB_false _ _).2 hb]; rfl) (fun b hb => B.other b hb)
            (fun b hb => by
              obtain ⟨pin, τ, xs, xs', e1, e2, e3, _⟩ := B.row b hb
              exact .inr ⟨pin, τ, xs, xs', e1, e2, e3⟩)
            hsz (fun c h1 h2 => hheap c h1 fun hf => by obtain ⟨b, h3, h4⟩ := hsub c hf; exact h2 b h3 h4) hos htape hout
            (fun b hb c hc => by rw [(memB_iff _ _).2 hb] at hc; exact hFnlt b hb c hc)
            (fun b b' hb hb' hne c hc hc' => by rw [(memB_iff _ _).2 hb] at hc; rw [(memB_iff _ _).2 hb'] at hc'; exact B.disj b b' hb hb' hne c hc hc')
            (fun b hb k hk => by
              obtain ⟨pin, τ, xs, xs', e1, e2, e3, e4⟩ := B.row b hb
              rw [e2] at hk
              cases hk
              obtain ⟨_, base, cap, eH, hbase⟩ := hr.blk b _ e1
              refine ⟨?_, base, cap, by rw [e3]; exact eH, hbase⟩
              show Own w'.heap S (.slice τ) xs' [H b] (bif memB used b then Fn b else F b)
              rw [(memB_iff _ _).2 hb]
              exact e4)
          -- the results
          generalize hargsE : (evs st c.args.toList ++ caps.map fun p => FV.v (V1.one (C.ptr p))) = args at hupd hn ⊢
          have hst1n : ({ st with loc := backPs fx.ps out.2 args st.loc }.kill [] used : St).n = st.n := by rw [St.kill_eq]
          have hst1len : st.loc.length = ({ st with loc := backPs fx.ps out.2 args st.loc }.kill [] used : St).loc.length := by
            rw [St.kill_eq, deadAt_nil, List.length_map]
            exact (backPs_length _ _ _ _).symm
          have hold : ∀ b k, ({ st with loc := backPs fx.ps out.2 args st.loc }.kill [] used : St).loc[b]? = some k → k.alive = true → b ∉ used → ∃ k0, st.loc[b]? = some k0 ∧ k0.alive = true := by
            intro b k hk ha hb
            rw [St.kill_eq, deadAt_nil, List.getElem?_map] at hk
            have := B.other b hb
            rw [hargsE] at this
            replace this : (backPs fx.ps out.2 args st.loc)[b]? = st.loc[b]? := this
            replace hk : ((backPs fx.ps out.2 args st.loc)[b]?).map _ = _ := hk
            rw [this] at hk
            cases hl : st.loc[b]? with
            | none => rw [hl] at hk; cases hk
            | some k0 =>
              rw [hl] at hk
              cases hk
              rw [kill_alive] at ha
              exact ⟨k0, rfl, ha⟩
          generalize ({ st with loc := backPs fx.ps out.2 args st.loc }.kill [] used : St) = st1 at hupd hst1n hst1len hold hn ⊢
          obtain ⟨m', H', F', g1, g2, g3, g4, g5⟩ := impR_gen (S := S) (m := m) (H := H) (F := fun b => bif memB used b then Fn b else F b) (loc := st1.loc) st.loc.length hst1len hres
          refine hn _ w' m' H' F' (hupd.more (by rw [hst1n]; exact hdst) g1 g2 (fun j k hj => ⟨(g3 j k hj).1, fun c hc => ?_⟩) g4 g5)
          have hc := (g3 j k hj).2 c hc
          have hnew := hFr c hc
          refine ⟨hnew.2, fun hs => ?_, fun b k' hbk ha hbc => ?_⟩
          · rcases hnew.1 with h1 | h1
            · exact hS0 c hs h1
            · have := hr.S_lt c hs; omega
          by_cases hbu : b ∈ used
          · rw [(memB_iff _ _).2 hbu] at hbc
            rcases hbsub b hbu c hbc with h1 | h1
            · exact hdj c hc h1
            · rcases hnew.1 with h2 | h2
              · exact h1.2 h2
              · have := usedlt b hbu c h1.1; omega
          · rw [(memB_false _ _).2 hbu] at hbc
            obtain ⟨k0, h1, h2⟩ := hold b k' hbk ha hbu
            rcases hnew.1 with h3 | h3
            · obtain ⟨b', h4, h5⟩ := hsub c h3
              obtain ⟨_, _, _, e⟩ := hrows b' h4
              exact hr.disj b b' k0 _ h1 e h2 rfl (fun e => hbu (e ▸ h4)) c hbc h5
            · have := hr.F_lt b k0 h1 h2 c hbc; omega
      · exact callMut_sound ho hc hg hdst l (fun fx hfx => hl fx (by simp [hfx])) h
    · exact callMut_sound ho hc hg hdst l (fun fx hfx => hl fx (by simp [hfx])) h
end
end Go.Fw
