/- Loops: what is kept at their heads. No condition. -/
import Derived.Test.YtcbpdhhipkdofaaFwSeq
import Derived.Deep.LoopGhost
namespace Go.Fw

theorem samePl_eq {p q : Place} (h : samePl p q = true) : p = q := by
  unfold samePl at h
  split at h
  · simp only [Bool.and_eq_true] at h
    rw [Nat.eq_of_beq_eq_true h.1, Nat.eq_of_beq_eq_true h.2]
  · cases h
theorem samePls_eq : ∀ {l m : List Place}, samePls l m = true → l = m
  | [], [], _ => rfl
  | [], _ :: _, h => by cases h
  | _ :: _, [], h => by cases h
  | p :: r, q :: s, h => by
    simp only [samePls, Bool.and_eq_true] at h
    rw [samePl_eq h.1, samePls_eq h.2]
theorem sameC_eq {c d : C} (h : sameC c d = true) : c = d := by
  unfold sameC at h
  split at h
  · simp only [Bool.and_eq_true] at h
    rw [Nat.eq_of_beq_eq_true h.1, samePls_eq h.2]
  · rfl
  · rw [samePl_eq h]
  · rfl
  · rw [Nat.eq_of_beq_eq_true h]
  · rfl
  · cases h

section dec
variable {Γ Δ : Ctx} {bs : List BK}

/-- What the new context must have where the shape of the blocks says so. -/
structure Holds (Γ Δ : Ctx) (bs : List BK) : Prop where
  h : Δ.h = Γ.h
  S : Δ.S = Γ.S
  m : Δ.m = Γ.m
  H : Δ.H = Γ.H
  F : Δ.F = Γ.F
  box : ∀ (b : Nat) (l : List CK), bs[b]? = some (.box l) → ∃ cs, Δ.loc[b]? = some (.box cs)
  row : ∀ (b : Nat) (p : Bool) (τ : Ty), bs[b]? = some (.row p τ) → ∃ p' τ' xs, Γ.loc[b]? = some (.row p' τ' xs) ∧ Δ.loc[b]? = some (.row p' τ' xs)

theorem rep_to (M : Holds Γ Δ bs) {τ : Ty} {x : τ.D} {vs : List Value} (h : Rep Γ.h Γ.S τ x vs) : All2 (cRel Δ) (enc τ x) vs := by
  refine enc_rel τ x vs ?_
  rw [M.h, M.S]; exact h

theorem pl_to (M : Holds Γ Δ bs) {p : Place} {v : Value} (h : plRel Γ p v) (hk : plOkIn bs p = true) : plRel Δ p v := by
  cases p with
  | box b o =>
    simp only [plOkIn] at hk
    split at hk
    · rename_i l hb
      obtain ⟨rfl, _⟩ := h
      obtain ⟨cs, hc⟩ := M.box b l hb
      exact ⟨by rw [M.m], cs, hc⟩
    · cases hk
  | elem b i o => cases hk
  | view τ x o => cases hk

theorem c_to (M : Holds Γ Δ bs) {c : C} {v : Value} (h : cRel Γ c v) (hk : c.okIn bs = true) : cRel Δ c v := by
  unfold C.okIn at hk
  split at hk
  · exact h
  · exact h
  · rename_i f caps
    obtain ⟨vs, rfl, ha⟩ := h
    refine ⟨vs, rfl, ?_⟩
    revert hk
    generalize vs.toList = l at ha
    intro hk
    induction ha with
    | nil => exact .nil
    | cons h _ ih =>
      simp only [List.all_cons, Bool.and_eq_true] at hk
      exact .cons (pl_to M h hk.1) (ih hk.2)
  · exact pl_to M h hk
  · exact h
  · rename_i b
    unfold rowOkIn at hk
    split at hk
    · rename_i p τ hb
      obtain ⟨p', τ', xs, _, hd⟩ := M.row b p τ hb
      exact ⟨by rw [M.H]; exact h.1, p', τ', xs, hd⟩
    · cases hk
  · cases hk

theorem caps_to (hS : Δ.S = Γ.S) (hh : Δ.h = Γ.h) : ∀ (l : List Ty) (ps : List Place) (x : TysD l) (vs : List Value), decTs l ps = some x → All2 (plRel Γ) ps vs → All2 (plRel Δ) (encTs l x) vs
  | [], [], x, vs, _, ha => by cases ha; exact .nil
  | [], _ :: _, x, vs, h, ha => by cases h
  | _ :: _, [], x, vs, h, ha => by cases h
  | τ :: r, p :: ps, x, vs, h, ha => by
    simp only [decTs] at h
    split at h
    · rename_i y z hy hz
      cases h
      cases ha with
      | cons h1 t1 =>
        refine .cons ?_ (caps_to hS hh r ps z _ hz t1)
        unfold viewP at hy
        split at hy
        · split at hy
          · rename_i he
            subst he
            cases hy
            obtain ⟨c, o, arr, te, fz, e, h2, h3, h4, h5⟩ := h1
            refine ⟨c, o, arr, te, fz, e, by rw [hS]; exact h2, by rw [hh]; exact h3, h4, ?_⟩
            rw [hS, hh]; exact h5
          · cases hy
        · cases hy
    · cases h

theorem slots_to (M : Holds Γ Δ bs) {tmps : Array Value} {fr : List (Nat × FV)} (hfr : ∀ t, fvRel Γ (look fr t) (tmps.getD t undef)) :
    ∀ (l : List (Nat × K)) (x : SlotsD l), slotsOk bs l = true → decSlots fr l = some x → ∀ t, fvRel Δ (look (encSlots l x) t) (tmps.getD t undef)
  | [], _, _, _, t => trivial
  | (t0, .dat ag τ) :: r, x, hk, h, t => by
    simp only [slotsOk] at hk
    simp only [decSlots] at h
    have h0 := hfr t0
    split at h
    · rename_i c hl
      split at h
      · rename_i x' y hx hy
        cases h
        simp only [encSlots, look]
        cases hb : Nat.beq t0 t
        · exact slots_to M hfr r y hk hy t
        · have := Nat.eq_of_beq_eq_true hb
          subst this
          rw [hl] at h0
          exact wrapV_rel (ag := false) (rep_to M (viewD_rel τ [c] x' _ hx (.cons h0 .nil))) (fun h => by cases h) fun _ => rfl
      · cases h
    · rename_i cs hl
      split at h
      · rename_i x' y hx hy
        cases h
        simp only [encSlots, look]
        cases hb : Nat.beq t0 t
        · exact slots_to M hfr r y hk hy t
        · have := Nat.eq_of_beq_eq_true hb
          subst this
          rw [hl] at h0
          obtain ⟨arr, e, ha⟩ := h0
          rw [e]
          exact wrapV_rel (ag := true) (rep_to M (viewD_rel τ cs x' _ hx ha)) (fun _ => rfl) fun h => by cases h
      · cases h
    · cases h
  | (t0, .cst c) :: r, x, hk, h, t => by
    simp only [slotsOk, Bool.and_eq_true] at hk
    simp only [decSlots] at h
    have h0 := hfr t0
    split at h
    · rename_i c' hl
      obtain ⟨hs, h⟩ := bif_some h
      simp only [encSlots, look]
      cases hb : Nat.beq t0 t
      · exact slots_to M hfr r x hk.2 h t
      · have := Nat.eq_of_beq_eq_true hb
        subst this
        rw [hl] at h0
        rw [sameC_eq hs] at h0
        exact c_to M h0 hk.1
    · cases h
  | (t0, .fnc f ts) :: r, x, hk, h, t => by
    simp only [slotsOk] at hk
    simp only [decSlots] at h
    have h0 := hfr t0
    split at h
    · rename_i f' ps hl
      obtain ⟨hs, h⟩ := bif_some h
      have hs := Nat.eq_of_beq_eq_true hs
      subst hs
      split at h
      · rename_i x' y hx hy
        cases h
        simp only [encSlots, look]
        cases hb : Nat.beq t0 t
        · exact slots_to M hfr r y hk hy t
        · have := Nat.eq_of_beq_eq_true hb
          subst this
          rw [hl] at h0
          obtain ⟨vs, e, ha⟩ := h0
          exact ⟨vs, e, caps_to M.S M.h ts ps x' _ hx ha⟩
      · cases h
    · cases h
  | (t0, .sub b) :: r, x, hk, h, t => by
    simp only [slotsOk, Bool.and_eq_true] at hk
    simp only [decSlots] at h
    have h0 := hfr t0
    split at h
    · rename_i b' o l hl
      obtain ⟨hs, h⟩ := bif_some h
      have hs := Nat.eq_of_beq_eq_true hs
      subst hs
      split at h
      · rename_i y hy
        cases h
        simp only [encSlots, look]
        cases hb : Nat.beq t0 t
        · exact slots_to M hfr r y hk.2 hy t
        · have := Nat.eq_of_beq_eq_true hb
          subst this
          rw [hl] at h0
          obtain ⟨pin, τ, xs, hc, hle, base, cap, e, h1, h2, h3⟩ := h0
          have hk1 := hk.1
          unfold rowOkIn at hk1
          split at hk1
          · rename_i p τ' hb'
            obtain ⟨p', τ'', xs', hg, hd⟩ := M.row b' p τ' hb'
            rw [hg] at hc
            cases hc
            exact ⟨_, _, _, hd, hle, base, cap, e, h1, h2, by rw [M.m]; exact h3⟩
          · cases hk1
      · cases h
    · cases h

theorem cks_to (M : Holds Γ Δ bs) : ∀ (l : List CK) (cs : List C) (x : CKsD l) (vs : List Value), cksOk bs l = true → decCKs l cs = some x → All2 (cRel Γ) cs vs → All2 (cRel Δ) (encCKs l x) vs
  | [], [], _, vs, _, _, ha => by cases ha; exact .nil
  | [], _ :: _, _, _, _, h, _ => by cases h
  | .dat τ :: r, cs, x, vs, hk, h, ha => by
    simp only [cksOk] at hk
    simp only [decCKs] at h
    split at h
    · rename_i y z hy hz
      cases h
      have h1 := viewD_rel τ _ y _ hy (ha.take τ.size)
      have h2 := cks_to M r _ z _ hk hz (ha.drop τ.size)
      have := (rep_to M h1).append h2
      rwa [List.take_append_drop] at this
    · cases h
  | .cst c :: r, [], x, vs, hk, h, ha => by cases h
  | .cst c :: r, c' :: cs, x, vs, hk, h, ha => by
    simp only [cksOk, Bool.and_eq_true] at hk
    simp only [decCKs] at h
    obtain ⟨hs, h⟩ := bif_some h
    cases ha with
    | cons h1 t =>
      rw [sameC_eq hs] at h1
      exact .cons (c_to M h1 hk.1) (cks_to M r cs x _ hk.2 h t)
end dec

/-- Where blocks come from. -/
theorem blks_from : ∀ (bs : List Blk) (l : List BK) (x : BlksD l), decBlks bs l = some x → ∀ (b : Nat),
    (l[b]? = none → (encBlks l x)[b]? = none) ∧
    (l[b]? = some .dead → (encBlks l x)[b]? = some .dead) ∧
    (∀ cks, l[b]? = some (.box cks) → ∃ cs y, bs[b]? = some (.box cs) ∧ decCKs cks cs = some y ∧ (encBlks l x)[b]? = some (.box (encCKs cks y))) ∧
    (∀ p τ, l[b]? = some (.row p τ) → ∃ xs, bs[b]? = some (.row p τ xs) ∧ (encBlks l x)[b]? = some (.row p τ xs))
  | _, [], x, h, b => by simp [encBlks]
  | [], .dead :: _, _, h, _ => by cases h
  | [], .box _ :: _, _, h, _ => by cases h
  | [], .row _ _ :: _, _, h, _ => by cases h
  | k :: bs, .dead :: r, x, h, b => by
    have h' : decBlks bs r = some x := by cases k <;> exact h
    cases b with
    | zero => simp [encBlks]
    | succ b => simpa [encBlks] using blks_from bs r x h' b
  | .dead :: bs, .box l :: r, x, h, b => by cases h
  | .row _ _ _ :: bs, .box l :: r, x, h, b => by cases h
  | .dead :: bs, .row _ _ :: r, x, h, b => by cases h
  | .box _ :: bs, .row _ _ :: r, x, h, b => by cases h
  | .box cs :: bs, .box l :: r, x, h, b => by
    simp only [decBlks] at h
    split at h
    · rename_i y z hy hz
      cases h
      cases b with
      | zero => simpa [encBlks] using ⟨y, hy, rfl⟩
      | succ b => simpa [encBlks] using blks_from bs r z hz b
    · cases h
  | .row p τ xs :: bs, .row p' τ' :: r, x, h, b => by
    simp only [decBlks] at h
    split at h
    · rename_i e
      subst e
      obtain ⟨hp, h⟩ := bif_some h
      have hp : p = p' := by simpa using hp
      subst hp
      split at h
      · rename_i z hz
        cases h
        cases b with
        | zero => simp [encBlks, cstL]
        | succ b => simpa [encBlks] using blks_from bs r z hz b
      · cases h
    · cases h

theorem blksOk_at {bs : List BK} : ∀ {l : List BK} {b : Nat} {cks : List CK}, blksOk bs l = true → l[b]? = some (.box cks) → cksOk bs cks = true
  | [], b, cks, _, h => by simp at h
  | k :: r, 0, cks, hk, h => by
    simp at h
    subst h
    simp only [blksOk, Bool.and_eq_true] at hk
    exact hk.1
  | k :: r, b + 1, cks, hk, h => by
    have : blksOk bs r = true := by
      cases k <;> simp only [blksOk, Bool.and_eq_true] at hk
      · exact hk
      · exact hk.2
      · exact hk
    exact blksOk_at this (by simpa using h)

/-- At a loop's head only its data count. -/
theorem Sig.dec_rel {w0 : W0} {w : World} {S : Nat → Prop} {m : Nat → Nat} {H : Nat → Value} {F : Nat → Nat → Prop} {st : St} {a : Act} {s : Sig} {x : s.D} (h : s.dec st = some x) (hr : Rel w0 S m H F st a w) :
    Rel w0 S m H F (s.enc st.n x) a w := by
  unfold Sig.dec at h
  obtain ⟨hok, h⟩ := bif_some h
  split at h
  · rename_i y z hy hz
    cases h
    simp only [Sig.ok, Bool.and_eq_true] at hok
    have hfrom := blks_from st.loc s.blks z hz
    have M : Holds ⟨w.heap, S, m, H, F, st.loc⟩ ⟨w.heap, S, m, H, F, encBlks s.blks z⟩ s.blks := by
      refine ⟨rfl, rfl, rfl, rfl, rfl, fun b l hb => ?_, fun b p τ hb => ?_⟩
      · obtain ⟨cs, y, _, _, h3⟩ := (hfrom b).2.2.1 l hb
        exact ⟨_, h3⟩
      · obtain ⟨xs, h1, h2⟩ := (hfrom b).2.2.2 p τ hb
        exact ⟨p, τ, xs, h1, h2⟩
    have alive : ∀ (b : Nat) (k : Blk), (encBlks s.blks z)[b]? = some k → k.alive = true → ∃ k0 : Blk, st.loc[b]? = some k0 ∧ k0.alive = true := by
      intro b k hk ha
      cases hb : s.blks[b]? with
      | none => rw [(hfrom b).1 hb] at hk; cases hk
      | some bk =>
        cases bk with
        | dead => rw [(hfrom b).2.1 hb] at hk; cases hk; cases ha
        | box l =>
          obtain ⟨cs, y, h1, _, _⟩ := (hfrom b).2.2.1 l hb
          exact ⟨_, h1, rfl⟩
        | row p τ =>
          obtain ⟨xs, h1, _⟩ := (hfrom b).2.2.2 p τ hb
          exact ⟨_, h1, rfl⟩
    refine ⟨hr.size, hr.defers, slots_to M hr.fr s.slots y hok.1 hy, fun b k hk => ?_, fun b k hk ha => ?_, fun b b' k k' hk hk' ha ha' => ?_, hr.stab, hr.grow, hr.os, hr.tape, hr.output, fun b τ xs hb => ?_⟩
    · replace hk : (encBlks s.blks z)[b]? = some k := hk
      show blkRel ⟨w.heap, S, m, H, F, encBlks s.blks z⟩ b k
      cases hb : s.blks[b]? with
      | none => rw [(hfrom b).1 hb] at hk; cases hk
      | some bk =>
        cases bk with
        | dead => rw [(hfrom b).2.1 hb] at hk; cases hk; trivial
        | box l =>
          obtain ⟨cs, y, h1, h2, h3⟩ := (hfrom b).2.2.1 l hb
          rw [h3] at hk
          cases hk
          obtain ⟨arr, te, hg, ha, hF⟩ := hr.blk b _ h1
          exact ⟨arr, te, hg, cks_to M l cs y _ (blksOk_at hok.2 hb) h2 ha, hF⟩
        | row p τ =>
          obtain ⟨xs, h1, h2⟩ := (hfrom b).2.2.2 p τ hb
          rw [h2] at hk
          cases hk
          exact hr.blk b _ h1
    · obtain ⟨k0, h1, h2⟩ := alive b k hk ha
      exact hr.own b k0 h1 h2
    · obtain ⟨k0, h1, h2⟩ := alive b k hk ha
      obtain ⟨k0', h1', h2'⟩ := alive b' k' hk' ha'
      exact hr.disj b b' k0 k0' h1 h1' h2 h2'
    · replace hb : (encBlks s.blks z)[b]? = some (.row true τ xs) := hb
      cases hs : s.blks[b]? with
      | none => rw [(hfrom b).1 hs] at hb; cases hb
      | some bk =>
        cases bk with
        | dead => rw [(hfrom b).2.1 hs] at hb; cases hb
        | box l =>
          obtain ⟨cs, y, h1, h2, h3⟩ := (hfrom b).2.2.1 l hs
          rw [h3] at hb; cases hb
        | row p τ' =>
          obtain ⟨xs', h1, h2⟩ := (hfrom b).2.2.2 p τ' hs
          rw [h2] at hb
          cases hb
          exact hr.pin b _ _ h1
  · cases h

end Go.Fw
