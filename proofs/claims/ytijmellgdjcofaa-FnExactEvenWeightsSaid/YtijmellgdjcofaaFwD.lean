/- The abstract interpreter, its soundness, and plain facts: part 4. No condition. -/
import Derived.Test.YtijmellgdjcofaaFwC
import Derived.Laws.Externs
import Derived.Test.YtijmellgdjcofaaFwA
import Derived.WalkKit
import Derived.WalkSpells
import Derived.WalkLawsBesides
/- A function that changes what it is lent: the interpreter's run of the body is a model. No condition. -/
namespace Go.Fw

/-- What has come in, as the call's own blocks from n on. -/
def EnterOK (Γ : Ctx) (n : Nat) : (p : PTy) → p.D → Value → Prop
  | .own false τ, x, v => All2 (cRel Γ) (imp true n τ x).1 [v] ∧ v.oneCell' = true
  | .own true τ, x, v => ∃ arr, v = .agg arr ∧ All2 (cRel Γ) (imp true n τ x).1 arr.toList
  | p, x, v => ArgRel Γ.h Γ.S p x v (fun _ => False)

def Entered (Γ : Ctx) : Nat → (ps : List PTy) → PD ps → List Value → Prop
  | _, [], _, vs => vs = []
  | n, p :: r, ds, vs => ∃ v vr, vs = v :: vr ∧ EnterOK Γ n p ds.1 v ∧ Entered Γ (n + (enterP n p ds.1).2.length) r ds.2 vr

/-- Parameters that this serves. -/
def xOnly : List PTy → Bool
  | [] => true
  | .ro _ _ :: r => xOnly r
  | .rptr _ :: r => xOnly r
  | .fnc _ _ :: r => xOnly r
  | .own _ τ :: r => noR τ && xOnly r
  | .optr _ :: _ => false

theorem EnterOK.same {Γ Δ : Ctx} (M : Moves Γ Δ [] []) (hh : Δ.h = Γ.h) (hS : Δ.S = Γ.S) {n : Nat} {p : PTy} {x : p.D} {v : Value} (h : EnterOK Γ n p x v) : EnterOK Δ n p x v := by
  cases p with
  | own ag τ =>
    cases ag
    · exact ⟨h.1.imp fun _ _ h => h.same M, h.2⟩
    · obtain ⟨arr, e, h⟩ := h
      exact ⟨arr, e, h.imp fun _ _ h => h.same M⟩
  | ro ag τ => unfold EnterOK at h ⊢; rw [hh, hS]; exact h
  | rptr τ => unfold EnterOK at h ⊢; rw [hh, hS]; exact h
  | fnc f caps => unfold EnterOK at h ⊢; rw [hh, hS]; exact h
  | optr τ => unfold EnterOK at h ⊢; rw [hh, hS]; exact h

theorem Entered.same {Γ Δ : Ctx} (M : Moves Γ Δ [] []) (hh : Δ.h = Γ.h) (hS : Δ.S = Γ.S) : ∀ {ps : List PTy} {n : Nat} {ds : PD ps} {vs : List Value}, Entered Γ n ps ds vs → Entered Δ n ps ds vs
  | [], _, _, _, h => h
  | _ :: _, _, _, _, h => by
    obtain ⟨v, vr, e, h1, h2⟩ := h
    exact ⟨v, vr, e, h1.same M hh hS, Entered.same M hh hS h2⟩

theorem enter_spec {h : Heap} {S : Nat → Prop} : ∀ (ps : List PTy) (t : Nat) (ds : PD ps) (vs : List Value) (G : Nat → Prop) (pre : List Blk) (m : Nat → Nat) (H : Nat → Value) (F : Nat → Nat → Prop), xOnly ps = true → ArgsRel h S ps ds vs G →
    ∃ m' H' F', (∀ b, b < pre.length → m' b = m b ∧ H' b = H b ∧ F' b = F b) ∧ Entered ⟨h, S, m', H', F', pre ++ (enterPs t pre.length ps ds).2⟩ pre.length ps ds vs ∧
      (∀ j k, (enterPs t pre.length ps ds).2[j]? = some k → blkRel ⟨h, S, m', H', F', pre ++ (enterPs t pre.length ps ds).2⟩ (pre.length + j) k ∧ ∀ c, F' (pre.length + j) c → G c) ∧
      ∀ j j', j ≠ j' → j < (enterPs t pre.length ps ds).2.length → j' < (enterPs t pre.length ps ds).2.length → ∀ c, F' (pre.length + j) c → ¬ F' (pre.length + j') c
  | [], t, ds, vs, G, pre, m, H, F, _, h => by
    cases h
    exact ⟨m, H, F, fun _ _ => ⟨rfl, rfl, rfl⟩, rfl, fun j k hj => by simp [enterPs] at hj, fun j j' _ hj => by simp [enterPs] at hj⟩
  | p :: r, t, ds, vs, G, pre, m, H, F, hp, ha => by
    obtain ⟨v, vr, F1, F2, rfl, h1, h2, s1, s2, d⟩ := ha
    have key : xOnly r = true ∧ ∃ m' H' F', (∀ b, b < pre.length → m' b = m b ∧ H' b = H b ∧ F' b = F b) ∧ EnterOK ⟨h, S, m', H', F', pre ++ (enterP pre.length p ds.1).2⟩ pre.length p ds.1 v ∧
        (∀ j k, (enterP pre.length p ds.1).2[j]? = some k → blkRel ⟨h, S, m', H', F', pre ++ (enterP pre.length p ds.1).2⟩ (pre.length + j) k ∧ ∀ c, F' (pre.length + j) c → F1 c) ∧
        ∀ j j', j ≠ j' → j < (enterP pre.length p ds.1).2.length → j' < (enterP pre.length p ds.1).2.length → ∀ c, F' (pre.length + j) c → ¬ F' (pre.length + j') c := by
      cases p with
      | own ag τ =>
        simp only [xOnly, Bool.and_eq_true] at hp
        refine ⟨hp.2, ?_⟩
        cases ag
        · obtain ⟨ho, h1c⟩ := h1
          obtain ⟨m', H', F', k1, a1, b1, d1⟩ := imp_spec true τ ds.1 [v] F1 pre m H F ho
          exact ⟨m', H', F', k1, ⟨a1, h1c⟩, b1, d1⟩
        · obtain ⟨arr, rfl, ho⟩ := h1
          obtain ⟨m', H', F', k1, a1, b1, d1⟩ := imp_spec true τ ds.1 arr.toList F1 pre m H F ho
          exact ⟨m', H', F', k1, ⟨arr, rfl, a1⟩, b1, d1⟩
      | ro ag τ => exact ⟨hp, m, H, F, fun _ _ => ⟨rfl, rfl, rfl⟩, by cases ag <;> exact h1, fun j k hj => by simp [enterP] at hj, fun j j' _ hj => by simp [enterP] at hj⟩
      | rptr τ => exact ⟨hp, m, H, F, fun _ _ => ⟨rfl, rfl, rfl⟩, h1, fun j k hj => by simp [enterP] at hj, fun j j' _ hj => by simp [enterP] at hj⟩
      | fnc f caps => exact ⟨hp, m, H, F, fun _ _ => ⟨rfl, rfl, rfl⟩, h1, fun j k hj => by simp [enterP] at hj, fun j j' _ hj => by simp [enterP] at hj⟩
      | optr τ => cases hp
    obtain ⟨hr, m1, H1, G1, k1, e1, b1, d1⟩ := key
    have ee : (enterPs t pre.length (p :: r) ds).2 = (enterP pre.length p ds.1).2 ++ (enterPs (t + 1) (pre.length + (enterP pre.length p ds.1).2.length) r ds.2).2 := rfl
    generalize hl1 : (enterP pre.length p ds.1).2 = l1 at *
    have hl : (pre ++ l1).length = pre.length + l1.length := List.length_append
    obtain ⟨m2, H2, G2, k2, e2, b2, d2⟩ := enter_spec r (t + 1) ds.2 vr F2 (pre ++ l1) m1 H1 G1 hr h2
    rw [hl] at k2 e2 b2 d2
    generalize hl2 : (enterPs (t + 1) (pre.length + l1.length) r ds.2).2 = l2 at *
    have M : Moves ⟨h, S, m1, H1, G1, pre ++ l1⟩ ⟨h, S, m2, H2, G2, pre ++ l1 ++ l2⟩ [] [] := Moves.more fun b hb => k2 b (by rwa [hl] at hb)
    refine ⟨m2, H2, G2, fun b hb => ?_, ?_, ?_, ?_⟩
    · obtain ⟨g1, g2, g3⟩ := k2 b (by omega)
      obtain ⟨f1, f2, f3⟩ := k1 b hb
      exact ⟨g1.trans f1, g2.trans f2, g3.trans f3⟩
    · rw [ee, ← List.append_assoc]
      refine ⟨v, vr, rfl, e1.same M rfl rfl, ?_⟩
      rw [hl1]
      exact e2
    · intro j k hj
      rw [ee] at hj ⊢
      rw [← List.append_assoc]
      rcases Nat.lt_or_ge j l1.length with hlt | hge
      · rw [getElem?_append_lt hlt] at hj
        obtain ⟨hb, hF⟩ := b1 j k hj
        have hk2 := k2 (pre.length + j) (by omega)
        exact ⟨hb.same M hk2 (fun _ _ => rfl), fun c hc => s1 c (hF c (by rw [← hk2.2.2]; exact hc))⟩
      · rw [List.getElem?_append_right hge] at hj
        obtain ⟨hb, hF⟩ := b2 _ k hj
        have e : pre.length + l1.length + (j - l1.length) = pre.length + j := by omega
        rw [e] at hb hF
        exact ⟨hb, fun c hc => s2 c (hF c hc)⟩
    · intro j j' hne hj hj' c
      rw [ee, List.length_append] at hj hj'
      rcases Nat.lt_or_ge j l1.length with hlt | hge <;> rcases Nat.lt_or_ge j' l1.length with hlt' | hge'
      · rw [(k2 (pre.length + j) (by omega)).2.2, (k2 (pre.length + j') (by omega)).2.2]
        exact d1 j j' hne hlt hlt' c
      · intro hc hc'
        rw [(k2 (pre.length + j) (by omega)).2.2] at hc
        obtain ⟨k, hk⟩ : ∃ k, l1[j]? = some k := ⟨_, List.getElem?_eq_getElem hlt⟩
        obtain ⟨k', hk'⟩ : ∃ k, l2[j' - l1.length]? = some k := ⟨_, List.getElem?_eq_getElem (by omega)⟩
        have e : pre.length + l1.length + (j' - l1.length) = pre.length + j' := by omega
        refine d c ((b1 j k hk).2 c hc) ((b2 _ k' hk').2 c ?_)
        rw [e]; exact hc'
      · intro hc hc'
        rw [(k2 (pre.length + j') (by omega)).2.2] at hc'
        obtain ⟨k, hk⟩ : ∃ k, l1[j']? = some k := ⟨_, List.getElem?_eq_getElem hlt'⟩
        obtain ⟨k', hk'⟩ : ∃ k, l2[j - l1.length]? = some k := ⟨_, List.getElem?_eq_getElem (by omega)⟩
        have e : pre.length + l1.length + (j - l1.length) = pre.length + j := by omega
        refine d c ((b1 j' k hk).2 c hc') ((b2 _ k' hk').2 c ?_)
        rw [e]; exact hc
      · have := d2 (j - l1.length) (j' - l1.length) (by omega) (by omega) (by omega) c
        have e : pre.length + l1.length + (j - l1.length) = pre.length + j := by omega
        have e' : pre.length + l1.length + (j' - l1.length) = pre.length + j' := by omega
        rwa [e, e'] at this

theorem entered_fr {Γ : Ctx} : ∀ (ps : List PTy) (t n : Nat) (ds : PD ps) (vs : List Value), xOnly ps = true → Entered Γ n ps ds vs →
    ∀ u v, (vs[u]? = some v → fvRel Γ (look (enterPs t n ps ds).1 (t + u)) v) ∧ (vs[u]? = none → look (enterPs t n ps ds).1 (t + u) = .undef)
  | [], t, n, ds, vs, _, h, u, v => by
    cases h
    exact ⟨fun h => by simp at h, fun _ => rfl⟩
  | p :: r, t, n, ds, vs, hp, h, u, v => by
    obtain ⟨v0, vr, rfl, h1, h2⟩ := h
    have key : fvRel Γ (enterP n p ds.1).1 v0 ∧ xOnly r = true := by
      cases p with
      | own ag τ =>
        simp only [xOnly, Bool.and_eq_true] at hp
        refine ⟨?_, hp.2⟩
        cases ag
        · exact wrapV_rel (ag := false) h1.1 (fun e => by cases e) fun _ => rfl
        · obtain ⟨arr, rfl, h1⟩ := h1
          exact wrapV_rel (ag := true) h1 (fun _ => by simp) fun e => by cases e
      | ro ag τ =>
        refine ⟨?_, hp⟩
        cases ag
        · exact wrapV_rel (ag := false) (enc_rel τ ds.1 _ h1.1) (fun e => by cases e) fun _ => rfl
        · obtain ⟨arr, rfl, h1⟩ := h1
          exact wrapV_rel (ag := true) (enc_rel τ ds.1 _ h1) (fun _ => by simp) fun e => by cases e
      | rptr τ => exact ⟨ref_view h1, hp⟩
      | fnc f caps =>
        obtain ⟨vs, rfl, h1⟩ := h1
        exact ⟨⟨vs, rfl, caps_view caps ds.1 _ h1⟩, hp⟩
      | optr τ => cases hp
    obtain ⟨k2, k3⟩ := key
    have i2 := entered_fr r (t + 1) (n + (enterP n p ds.1).2.length) ds.2 vr k3 h2
    cases u with
    | zero =>
      refine ⟨fun hv => ?_, fun hv => by simp at hv⟩
      simp at hv
      subst hv
      simp only [enterPs, Nat.add_zero, look, Nat.beq_refl, cond_true]
      exact k2
    | succ u =>
      have hb : Nat.beq t (t + (u + 1)) = false := by
        cases hb : Nat.beq t (t + (u + 1))
        · rfl
        · have := Nat.eq_of_beq_eq_true hb; omega
      simp only [enterPs, look, hb, cond_false, List.getElem?_cons_succ]
      rw [show t + (u + 1) = t + 1 + u by omega]
      exact i2 u v

section leave
variable {Γ Δ : Ctx} (hb : ∀ b k, Δ.loc[b]? = some k → blkRel Δ b k) (hd : ∀ b b' k k', Δ.loc[b]? = some k → Δ.loc[b']? = some k' → k.alive = true → k'.alive = true → b ≠ b' → ∀ c, Δ.F b c → ¬ Δ.F b' c)
  (hpin : ∀ b τ xs, Δ.loc[b]? = some (.row true τ xs) → Δ.H b = Γ.H b) (hS : ∀ c, Γ.S c → Δ.h[c]? = Γ.h[c]?) (eS : Δ.S = Γ.S)
include hb hd hpin

theorem leaveD_rel : (τ : Ty) → (n : Nat) → (x y : τ.D) → (l : List Nat) → (vs : List Value) → noR τ = true → leaveD Δ.loc n τ x = some (y, l) → l.Nodup → All2 (cRel Γ) (imp true n τ x).1 vs →
    Own Δ.h Δ.S τ y vs (rowsF Δ.F l) ∧ ∀ b, b ∈ l → ∃ τ xs, Δ.loc[b]? = some (.row true τ xs)
  | .int k, n, x, y, l, vs, _, h, _, ha => by
    cases h
    refine ⟨?_, fun b hb => by cases hb⟩
    cases ha with | cons h1 t => cases t; obtain ⟨rfl, h2⟩ := h1; exact ⟨rfl, h2⟩
  | .bool, n, x, y, l, vs, _, h, _, ha => by
    cases h
    refine ⟨?_, fun b hb => by cases hb⟩
    cases ha with | cons h1 t => cases t; cases h1; rfl
  | .flt k, n, x, y, l, vs, _, h, _, ha => by
    cases h
    refine ⟨?_, fun b hb => by cases hb⟩
    cases ha with | cons h1 t => cases t; obtain ⟨b, rfl, h2⟩ := h1; exact ⟨b, rfl, h2⟩
  | .str, n, x, y, l, vs, _, h, _, ha => by
    cases h
    refine ⟨?_, fun b hb => by cases hb⟩
    cases ha with | cons h1 t => cases t; obtain ⟨rfl, h2⟩ := h1; exact ⟨rfl, h2⟩
  | .unit, n, x, y, l, vs, _, h, _, ha => by
    cases h
    refine ⟨?_, fun b hb => by cases hb⟩
    cases ha; rfl
  | .fn f, n, x, y, l, vs, _, h, _, ha => by
    cases h
    exact ⟨cFn_rel (cs := [.fn f []]) (f := f) (u := ()) (by simp [cFn]) ha, fun b hb => by cases hb⟩
  | .rslice e, n, x, y, l, vs, hn, _, _, _ => by cases hn
  | .ref e, n, x, y, l, vs, hn, _, _, _ => by cases hn
  | .slice e, n, x, y, l, vs, _, h, _, ha => by
    simp only [leaveD] at h
    split at h
    · rename_i τ xs hl
      split at h
      · rename_i he
        subst he
        cases h
        cases ha with
        | cons h1 t =>
          cases t
          obtain ⟨e1, _⟩ := h1
          obtain ⟨ho, _⟩ := hb n _ hl
          rw [hpin n _ _ hl, ← e1] at ho
          refine ⟨Own.mono (fun _ h => h) (fun _ _ => rfl) _ _ _ _ _ (fun c hc => ⟨n, by simp, hc⟩) (fun _ _ => rfl) ho, fun b hb => ?_⟩
          simp at hb
          subst hb
          exact ⟨_, _, hl⟩
      · cases h
    · cases h
  | .pair a b, n, x, y, l, vs, hn, h, hnd, ha => by
    simp only [leaveD] at h
    simp only [noR, Bool.and_eq_true] at hn
    split at h
    · rename_i y1 l1 y2 l2 h1 h2
      cases h
      have hnd' := List.nodup_append.1 hnd
      simp only [imp] at ha
      obtain ⟨v1, v2, rfl, a1, a2⟩ := ha.split
      obtain ⟨o1, f1⟩ := leaveD_rel a n x.1 y1 l1 v1 hn.1 h1 hnd'.1 a1
      obtain ⟨o2, f2⟩ := leaveD_rel b _ x.2 y2 l2 v2 hn.2 h2 hnd'.2.1 a2
      refine ⟨⟨v1, v2, rowsF Δ.F l1, rowsF Δ.F l2, rfl, o1, o2, fun c ⟨b, h1, h2⟩ => ⟨b, by simp [h1], h2⟩, fun c ⟨b, h1, h2⟩ => ⟨b, by simp [h1], h2⟩, ?_⟩, ?_⟩
      · rintro c ⟨b1, h1, h2⟩ ⟨b2, h3, h4⟩
        obtain ⟨_, _, e1⟩ := f1 b1 h1
        obtain ⟨_, _, e2⟩ := f2 b2 h3
        exact hd b1 b2 _ _ e1 e2 rfl rfl (hnd'.2.2 b1 h1 b2 h3) c h2 h4
      · intro b hb
        rcases List.mem_append.1 hb with hb | hb
        · exact f1 b hb
        · exact f2 b hb
    · cases h

include hS eS in
theorem leavePs_rel : ∀ (ps : List PTy) (n : Nat) (ds y : PD ps) (l : List Nat) (vs : List Value), xOnly ps = true → leavePs Δ.loc n ps ds = some (y, l) → l.Nodup → Entered Γ n ps ds vs →
    ArgsRel Δ.h Γ.S ps y vs (rowsF Δ.F l) ∧ ∀ b, b ∈ l → ∃ τ xs, Δ.loc[b]? = some (.row true τ xs)
  | [], n, ds, y, l, vs, _, h, _, he => by
    cases h
    exact ⟨he, fun b hb => by cases hb⟩
  | p :: r, n, ds, y, l, vs, hp, h, hnd, he => by
    obtain ⟨v, vr, rfl, h1, h2⟩ := he
    simp only [leavePs] at h
    split at h
    · rename_i y1 l1 y2 l2 g1 g2
      cases h
      have hnd' := List.nodup_append.1 hnd
      have ro : ∀ (q : PTy) (x : q.D) (w : Value), ArgRel Γ.h Γ.S q x w (fun _ => False) → (∀ ag τ, q ≠ .own ag τ) → (∀ τ, q ≠ .optr τ) → ArgRel Δ.h Γ.S q x w (fun _ => False) := by
        intro q x w hq n1 n2
        have ref : ∀ (τ : Ty) (x : τ.D) (w : Value), RefRel Γ.h Γ.S τ x w → RefRel Δ.h Γ.S τ x w := by
          rintro τ x w ⟨c, o, arr, te, fz, rfl, q1, q2, q3, q4⟩
          exact ⟨c, o, arr, te, fz, rfl, q1, (hS c q1).trans q2, q3, Rep.mono (fun _ h => h) hS _ _ _ q4⟩
        cases q with
        | ro ag τ =>
          cases ag
          · exact ⟨Rep.mono (fun _ h => h) hS _ _ _ hq.1, hq.2⟩
          · obtain ⟨arr, e, hq⟩ := hq
            exact ⟨arr, e, Rep.mono (fun _ h => h) hS _ _ _ hq⟩
        | rptr τ => exact ref _ _ _ hq
        | fnc f caps =>
          obtain ⟨us, e, hq⟩ := hq
          refine ⟨us, e, ?_⟩
          generalize us.toList = l at hq
          clear e
          induction caps generalizing l with
          | nil => exact hq
          | cons τ r ih =>
            obtain ⟨u, ur, rfl, k1, k2⟩ := hq
            exact ⟨u, ur, rfl, ref _ _ _ k1, ih x.2 (fun ag τ => by simp) (fun τ => by simp) ur k2⟩
        | own ag τ => exact (n1 ag τ rfl).elim
        | optr τ => exact (n2 τ rfl).elim
      have key : xOnly r = true ∧ ArgRel Δ.h Γ.S p y1 v (rowsF Δ.F l1) ∧ ∀ b, b ∈ l1 → ∃ τ xs, Δ.loc[b]? = some (.row true τ xs) := by
        cases p with
        | own ag τ =>
          simp only [xOnly, Bool.and_eq_true] at hp
          refine ⟨hp.2, ?_⟩
          cases ag
          · obtain ⟨o1, f1⟩ := leaveD_rel hb hd hpin τ n ds.1 y1 l1 [v] hp.1 g1 hnd'.1 h1.1
            rw [eS] at o1
            exact ⟨⟨o1, h1.2⟩, f1⟩
          · obtain ⟨arr, rfl, h1⟩ := h1
            obtain ⟨o1, f1⟩ := leaveD_rel hb hd hpin τ n ds.1 y1 l1 arr.toList hp.1 g1 hnd'.1 h1
            rw [eS] at o1
            exact ⟨⟨arr, rfl, o1⟩, f1⟩
        | ro ag τ =>
          cases g1
          refine ⟨hp, ?_, fun b hb => by cases hb⟩
          have := ro (.ro ag τ) ds.1 v h1 (fun _ _ => by simp) (fun _ => by simp)
          cases ag <;> exact this
        | rptr τ =>
          cases g1
          exact ⟨hp, ro (.rptr τ) ds.1 v h1 (fun _ _ => by simp) (fun _ => by simp), fun b hb => by cases hb⟩
        | fnc f caps =>
          cases g1
          exact ⟨hp, ro (.fnc f caps) ds.1 v h1 (fun _ _ => by simp) (fun _ => by simp), fun b hb => by cases hb⟩
        | optr τ => cases hp
      obtain ⟨k1, k2, k3⟩ := key
      obtain ⟨i1, i2⟩ := leavePs_rel r _ ds.2 y2 l2 vr k1 g2 hnd'.2.1 h2
      refine ⟨⟨v, vr, rowsF Δ.F l1, rowsF Δ.F l2, rfl, k2, i1, fun c ⟨b, h1, h2⟩ => ⟨b, by simp [h1], h2⟩, fun c ⟨b, h1, h2⟩ => ⟨b, by simp [h1], h2⟩, ?_⟩, ?_⟩
      · rintro c ⟨b1, h1, h2⟩ ⟨b2, h3, h4⟩
        obtain ⟨_, _, e1⟩ := k3 b1 h1
        obtain ⟨_, _, e2⟩ := i2 b2 h3
        exact hd b1 b2 _ _ e1 e2 rfl rfl (hnd'.2.2 b1 h1 b2 h3) c h2 h4
      · intro b hb
        rcases List.mem_append.1 hb with hb | hb
        · exact k3 b hb
        · exact i2 b hb
    · cases h
end leave

section fn
variable {P : Program} {E : Tabs}

/-- **A function's call**, of one that changes what it is lent. -/
theorem calls_of_evalX (ok : EnvOK P E) {f : FuncId} {fn : Func} {c : Code} {L : Nat → Option LP} {fx : FX} (hf : P.funcs[f]? = some fn) (hbody : fn.body = some c) (hx : xOnly fx.ps = true) (hnr : noRR fx.res = true)
    (hsz : fx.ps.length ≤ fn.ntmps) (hL : LoopsOK E L fn.ntmps c) {w : World} {args : List Value} {ds : PD fx.ps} {out : fx.res.D × PD fx.ps} {G : Nat → Prop} (hG : ∀ c, G c → c < w.heap.size)
    (hargs : ArgsRel w.heap (fun c => c < w.heap.size ∧ ¬ G c) fx.ps ds args G) (hev : evalX E L fn fx.ps fx.res ds = some out) :
    Calls P f args.toArray w fun e w' => ∃ v, e = .returned v ∧ (w.heap.size ≤ w'.heap.size ∧ (∀ c, c < w.heap.size → ¬ G c → w'.heap[c]? = w.heap[c]?) ∧ w'.os = w.os ∧ w'.tape = w.tape ∧ w'.output = w.output ∧
      ∃ Fr F', ResRel w'.heap (fun _ => False) fx.res out.1 v Fr ∧ ArgsRel w'.heap (fun c => c < w.heap.size ∧ ¬ G c) fx.ps out.2 args F' ∧
        (∀ c, Fr c → (G c ∨ w.heap.size ≤ c) ∧ c < w'.heap.size) ∧ (∀ c, F' c → (G c ∨ w.heap.size ≤ c) ∧ c < w'.heap.size) ∧ ∀ c, Fr c → ¬ F' c) := by
  unfold evalX at hev
  rw [hbody] at hev
  simp only [] at hev
  obtain ⟨m0, H0, F0, _, e0, b0, d0⟩ := enter_spec fx.ps 0 ds args G [] (fun _ => 0) (fun _ => undef) (fun _ _ => False) hx hargs
  simp only [List.nil_append, List.length_nil, Nat.zero_add] at e0 b0 d0
  have hlen : ∀ (ps : List PTy) (ds : PD ps) (vs : List Value) (F : Nat → Prop) (T : Nat → Prop), ArgsRel w.heap T ps ds vs F → vs.length = ps.length := by
    intro ps
    induction ps with
    | nil => intro ds vs F T h; cases h; rfl
    | cons p r ih =>
      intro ds vs F T h
      obtain ⟨_, vr, _, F2, rfl, _, h2, _⟩ := h
      simp [ih _ _ _ _ h2]
  have hal := hlen _ _ _ _ _ hargs
  have allpin : ∀ (ps : List PTy) (t n : Nat) (ds : PD ps) (j : Nat) (k : Blk), xOnly ps = true → (enterPs t n ps ds).2[j]? = some k → k.alive = true := by
    have imp_alive : ∀ (τ : Ty) (n : Nat) (x : τ.D) (j : Nat) (k : Blk), (imp true n τ x).2[j]? = some k → k.alive = true := by
      intro τ
      induction τ with
      | pair a b iha ihb =>
        intro n x j k h
        simp only [imp] at h
        rcases Nat.lt_or_ge j (imp true n a x.1).2.length with hlt | hge
        · rw [List.getElem?_append_left hlt] at h; exact iha _ _ _ _ h
        · rw [List.getElem?_append_right hge] at h; exact ihb _ _ _ _ h
      | slice e _ =>
        intro n x j k h
        cases j with
        | zero => simp [imp] at h; subst h; rfl
        | succ j => simp [imp] at h
      | _ => intro n x j k h; simp [imp] at h
    intro ps
    induction ps with
    | nil => intro t n ds j k _ h; simp [enterPs] at h
    | cons p r ih =>
      intro t n ds j k hp h
      have ee : (enterPs t n (p :: r) ds).2 = (enterP n p ds.1).2 ++ (enterPs (t + 1) (n + (enterP n p ds.1).2.length) r ds.2).2 := rfl
      rw [ee] at h
      have hr : xOnly r = true := by
        cases p with
        | own ag τ => simp only [xOnly, Bool.and_eq_true] at hp; exact hp.2
        | optr τ => cases hp
        | _ => exact hp
      rcases Nat.lt_or_ge j (enterP n p ds.1).2.length with hlt | hge
      · rw [List.getElem?_append_left hlt] at h
        cases p with
        | own ag τ => exact imp_alive τ n ds.1 j k h
        | optr τ => cases hp
        | _ => simp [enterP] at h
      · rw [List.getElem?_append_right hge] at h
        exact ih _ _ _ _ _ hr h
  refine calls_of_wp hf hbody ?_
  refine exec_sound (w0 := ⟨w, H0⟩) (S := fun c => c < w.heap.size ∧ ¬ G c) ok c hL _ out _ _ m0 H0 F0 _ w _ rfl hev ?_ ?_
  · refine ⟨?_, rfl, fun t => ?_, fun b k hk => (b0 b k hk).1, fun b k hk _ c hc => ?_, fun b b' k k' hk hk' _ _ hne => ?_, fun c hc => ⟨hc.1, rfl⟩, Nat.le_refl _, rfl, rfl, rfl, fun b τ xs hb => rfl⟩
    · simp; omega
    · show fvRel _ (look (enterPs 0 0 fx.ps ds).1 t) _
      rw [getElem?_args]
      have := entered_fr fx.ps 0 0 ds args hx e0 t
      rw [Nat.zero_add] at this
      cases hv : args[t]? with
      | none => rw [(this undef).2 hv]; trivial
      | some v => exact (this v).1 hv
    · have := (b0 b k hk).2 c hc
      exact ⟨hG c this, fun hs => hs.2 this⟩
    · exact d0 b b' hne (List.getElem?_eq_some_iff.1 hk).1 (List.getElem?_eq_some_iff.1 hk').1
  · intro e st' m' H' F' a' w' hn he hr'
    have fin : outX E fn fx.ps fx.res ds st' = some out →
        a'.defers = [] ∧ ∃ v, (results fn a'.tmps).run P w' = .ok v w' ∧ ∃ v', Ending.returned v = .returned v' ∧ (w.heap.size ≤ w'.heap.size ∧ (∀ c, c < w.heap.size → ¬ G c → w'.heap[c]? = w.heap[c]?) ∧ w'.os = w.os ∧ w'.tape = w.tape ∧ w'.output = w.output ∧
      ∃ Fr F', ResRel w'.heap (fun _ => False) fx.res out.1 v' Fr ∧ ArgsRel w'.heap (fun c => c < w.heap.size ∧ ¬ G c) fx.ps out.2 args F' ∧
        (∀ c, Fr c → (G c ∨ w.heap.size ≤ c) ∧ c < w'.heap.size) ∧ (∀ c, F' c → (G c ∨ w.heap.size ≤ c) ∧ c < w'.heap.size) ∧ ∀ c, Fr c → ¬ F' c) := by
      intro h
      unfold outX at h
      split at h
      · rename_i x l y l' hres hleave
        obtain ⟨hnd, h⟩ := bif_some h
        cases h
        have hnd := List.nodup_append.1 ((nodupB_iff _).1 hnd)
        obtain ⟨v, h1, h2, h3⟩ := resD_rel ok.tab hr' hres hnd.1
        obtain ⟨k1, k2⟩ := leavePs_rel (Γ := ⟨w.heap, fun c => c < w.heap.size ∧ ¬ G c, m0, H0, F0, (enterPs 0 0 fx.ps ds).2⟩) (Δ := ⟨w'.heap, fun c => c < w.heap.size ∧ ¬ G c, m', H', F', st'.loc⟩) hr'.blk hr'.disj hr'.pin
          (fun c hc => (hr'.stab c hc).2) rfl fx.ps 0 ds y l' args hx hleave hnd.2.1 e0
        have inn : ∀ b k, st'.loc[b]? = some k → k.alive = true → ∀ c, F' b c → (G c ∨ w.heap.size ≤ c) ∧ c < w'.heap.size := fun b k hk ha c hc => by
          have := hr'.own b k hk ha c hc
          refine ⟨?_, this.1⟩
          by_cases hg : G c
          · exact .inl hg
          · exact .inr (Nat.le_of_not_lt fun hl => this.2 ⟨hl, hg⟩)
        refine ⟨hr'.defers, v, h1, v, rfl, hr'.grow, fun c h4 h5 => (hr'.stab c ⟨h4, h5⟩).2, hr'.os, hr'.tape, hr'.output, rowsF F' l, rowsF F' l', h2.noR hnr, k1, ?_, ?_, ?_⟩
        · rintro c ⟨b, hb, hc⟩
          obtain ⟨τ, xs, hl⟩ := h3 b hb
          exact inn b _ hl rfl c hc
        · rintro c ⟨b, hb, hc⟩
          obtain ⟨τ, xs, hl⟩ := k2 b hb
          exact inn b _ hl rfl c hc
        · rintro c ⟨b, hb, hc⟩ ⟨b', hb', hc'⟩
          obtain ⟨τ, xs, hl⟩ := h3 b hb
          obtain ⟨τ', xs', hl'⟩ := k2 b' hb'
          exact hr'.disj b b' _ _ hl hl' rfl rfl (hnd.2.2 b hb b' hb') c hc hc'
      · cases h
    cases e with
    | normal => exact fin he
    | ret => exact fin he
    | exit i => cases he
end fn
end Go.Fw
/- The table of types, checked by program; functions without a body. No condition. -/
namespace Go.Fw

def zeroB : C → Value → Bool
  | .undef, v => v.oneCell'
  | .int k n, .int k' n' => decide (k = k') && decide (n = n') && decide (k.min ≤ n) && decide (n ≤ k.max)
  | .bool b, .bool b' => b == b'
  | .flt k x, .float k' b => decide (k = k') && Nat.beq (canon k b) x && Nat.blt b (2 ^ k.format.width)
  | .str s, .string s' => s.data.toList == s'.data.toList && Nat.ble s'.size 4294967296
  | .pnil, .pointer none => true
  | .sl .nil, .slice _ 0 0 => true
  | _, _ => false

theorem zeroB_spec {c : C} {v : Value} (h : zeroB c v = true) : constRel c v := by
  intro Γ
  unfold zeroB at h
  split at h
  · exact h
  · simp only [Bool.and_eq_true, decide_eq_true_eq] at h
    obtain ⟨⟨⟨rfl, rfl⟩, h1⟩, h2⟩ := h
    exact ⟨rfl, h1, h2⟩
  · rename_i b b'
    have : b = b' := by simpa using h
    subst this; rfl
  · simp only [Bool.and_eq_true, decide_eq_true_eq, Nat.blt_eq] at h
    obtain ⟨⟨rfl, h1⟩, h2⟩ := h
    have h1 := Nat.eq_of_beq_eq_true h1
    subst h1
    exact ⟨_, rfl, FRel.mk' h2⟩
  · simp only [Bool.and_eq_true] at h
    obtain ⟨h1, h2⟩ := h
    rename_i s s'
    have h1 : s.data.toList = s'.data.toList := by simpa using h1
    have : s = s' := by
      cases s; cases s'
      simp only at h1
      congr 1
      exact Array.toList_inj.1 h1
    subst this
    refine ⟨rfl, ?_⟩
    have := Nat.le_of_ble_eq_true h2
    simp only [maxLen]; omega
  · rfl
  · exact ⟨_, rfl⟩
  · cases h

def zerosB : List C → List Value → Bool
  | [], [] => true
  | c :: cs, v :: vs => zeroB c v && zerosB cs vs
  | _, _ => false

theorem zerosB_spec : ∀ {cs : List C} {vs : List Value}, zerosB cs vs = true → All2 constRel cs vs
  | [], [], _ => .nil
  | [], _ :: _, h => by cases h
  | _ :: _, [], h => by cases h
  | c :: cs, v :: vs, h => by
    simp only [zerosB, Bool.and_eq_true] at h
    exact .cons (zeroB_spec h.1) (zerosB_spec h.2)

def undB : Und → TypeDesc → Bool
  | .int k, .int k' => decide (k = k')
  | .flt k, .float k' => decide (k = k')
  | .bool, .bool => true
  | .str, .string => true
  | .slice e, .slice e' => Nat.beq e e'
  | .array n e, .array n' e' => Nat.beq n n' && Nat.beq e e'
  | .struct fs, .struct l => l.toList.map (fun f => (f.offset, f.type)) == fs
  | .other, d => !aggD d
  | _, _ => false

theorem undB_spec {u : Und} {d : TypeDesc} (h : undB u d = true) : undRel u d := by
  unfold undB at h
  split at h
  · have := of_decide_eq_true h; subst this; rfl
  · have := of_decide_eq_true h; subst this; rfl
  · rfl
  · rfl
  · have := Nat.eq_of_beq_eq_true h; subst this; rfl
  · rw [Bool.and_eq_true] at h
    have h1 := Nat.eq_of_beq_eq_true h.1
    have h2 := Nat.eq_of_beq_eq_true h.2
    subst h1 h2; rfl
  · exact ⟨_, rfl, by simpa using h⟩
  · have : aggD d = false := by simpa using h
    exact this
  · cases h

def tiB (P : Program) (t : TypeId) (ti : TI) : Bool :=
  (match P.info? t with
    | some i => Nat.beq i.size ti.size && Nat.beq i.bytes ti.bytes && (match i.zero with
      | some z => zerosB ti.zero z.cells.toList
      | none => false)
    | none => false) &&
  (match P.underlying t with
    | some d => undB ti.und d
    | none => false)

theorem tiB_spec {P : Program} {t : TypeId} {ti : TI} (h : tiB P t ti = true) : TIOK P t ti := by
  unfold tiB at h
  rw [Bool.and_eq_true] at h
  obtain ⟨h1, h2⟩ := h
  constructor
  · split at h1
    · rename_i i hi
      simp only [Bool.and_eq_true] at h1
      obtain ⟨⟨h3, h4⟩, h5⟩ := h1
      split at h5
      · rename_i z hz
        exact ⟨i, hi, Nat.eq_of_beq_eq_true h3, Nat.eq_of_beq_eq_true h4, z, hz, zerosB_spec h5⟩
      · cases h5
    · cases h1
  · split at h2
    · rename_i d hd
      exact ⟨d, hd, undB_spec h2⟩
    · cases h2

def lookT : List (Nat × TI) → Nat → Option TI
  | [], _ => none
  | (t, i) :: r, u => bif Nat.beq t u then some i else lookT r u

def tabB (P : Program) : List (Nat × TI) → Bool
  | [] => true
  | (t, ti) :: r => tiB P t ti && tabB P r

theorem tabB_spec {P : Program} : ∀ {l : List (Nat × TI)}, tabB P l = true → TabOK P (lookT l)
  | [], _ => fun t ti h => by cases h
  | (t, ti) :: r, h => fun u ui hu => by
    simp only [tabB, Bool.and_eq_true] at h
    simp only [lookT] at hu
    cases hb : Nat.beq t u
    · rw [hb] at hu; exact tabB_spec h.2 u ui hu
    · rw [hb] at hu
      cases hu
      rw [← Nat.eq_of_beq_eq_true hb]
      exact tiB_spec h.1

/-! ### functions without loops -/
def noLoops : Code → Bool
  | .seq a b => noLoops a && noLoops b
  | .cond _ a b => noLoops a && noLoops b
  | .block _ c => noLoops c
  | .loop _ => false
  | _ => true

theorem noLoops_spec {E : Tabs} {L : Nat → Option LP} {n : Nat} : ∀ c : Code, noLoops c = true → LoopsOK E L n c := by
  intro c
  induction c with
  | seq a b iha ihb => intro h; simp only [noLoops, Bool.and_eq_true] at h; exact ⟨iha h.1, ihb h.2⟩
  | cond o a b iha ihb => intro h; simp only [noLoops, Bool.and_eq_true] at h; exact ⟨iha h.1, ihb h.2⟩
  | block i c ih => intro h; exact ih h
  | loop c _ => intro h; cases h
  | _ => intro _; trivial

def bodyB (fn : Func) : Bool := match fn.body with
  | some c => noLoops c
  | none => false

def shapeB (fn : Func) (ps : List PTy) (res : RTy) : Bool := !(fn.name == "runtime.NumGoroutine") && roOnly ps && noRR res && Nat.ble ps.length fn.ntmps

def Loops (E : Tabs) (L : Nat → Option LP) (fn : Func) : Prop := ∃ c, fn.body = some c ∧ LoopsOK E L fn.ntmps c

theorem Loops.none {E : Tabs} {L : Nat → Option LP} {fn : Func} (h : bodyB fn = true) : Loops E L fn := by
  unfold bodyB at h
  split at h
  · rename_i c hc; exact ⟨c, hc, noLoops_spec c h⟩
  · cases h

theorem FmOK.made {P : Program} {E : Tabs} (ok : EnvOK P E) {f : FuncId} {fn : Func} {L : Nat → Option LP} {fm : FM} (hf : P.funcs[f]? = some fn) (hs : shapeB fn fm.ps fm.res = true) (hL : Loops E L fn)
    (heval : ∀ ds out, okPs fm.ps ds → fm.run ds = some out → evalF E L fn fm.ps fm.res ds = some out) : FmOK P f fm := by
  simp only [shapeB, Bool.and_eq_true, Bool.not_eq_true'] at hs
  obtain ⟨⟨⟨h1, h2⟩, h3⟩, h4⟩ := hs
  obtain ⟨c, hc, hL⟩ := hL
  intro w args ds out hargs hrun
  exact Lands.of_calls hf (by rw [hc]; rfl) h1 (calls_of_eval ok hf hc h2 h3 (Nat.le_of_ble_eq_true h4) hL hargs (heval ds out (args_ok _ _ _ _ hargs) hrun))

def shapeX (fn : Func) (ps : List PTy) (res : RTy) : Bool := !(fn.name == "runtime.NumGoroutine") && xOnly ps && noRR res && Nat.ble ps.length fn.ntmps

theorem FxOK.made {P : Program} {E : Tabs} (ok : EnvOK P E) {f : FuncId} {fn : Func} {L : Nat → Option LP} {fx : FX} (hf : P.funcs[f]? = some fn) (hs : shapeX fn fx.ps fx.res = true) (hL : Loops E L fn)
    (heval : ∀ ds out, okPs fx.ps ds → fx.run ds = some out → evalX E L fn fx.ps fx.res ds = some out) : FxOK P f fx := by
  simp only [shapeX, Bool.and_eq_true, Bool.not_eq_true'] at hs
  obtain ⟨⟨⟨h1, h2⟩, h3⟩, h4⟩ := hs
  obtain ⟨c, hc, hL⟩ := hL
  intro w args ds out F hF hargs hrun
  exact Lands.of_calls hf (by rw [hc]; rfl) h1 (calls_of_evalX ok hf hc h2 h3 (Nat.le_of_ble_eq_true h4) hL hF hargs (heval ds out (args_ok _ _ _ _ hargs) hrun))

/-- What a law's function must show. -/
def lawB (P : Program) (T : Tab) (fn : Func) (ps : List PTy) : Bool :=
  parB T 20 fn.params.toList ps && Nat.ble ps.length fn.ntmps && (fn.params.toList.all fun t => P.readableRec t && decide (t < P.types.size)) && laidOutB P &&
  (match fn.resultTypes.toList with
    | [tb] => (match P.underlying tb with | some .bool => true | _ => false)
    | _ => false)

theorem law_of {P : Program} {E : Tabs} (ok : EnvOK P E) {k : FuncId} {fn : Func} {L : Nat → Option LP} {ps : List PTy} {spec : ChangeSpec} {H : Type} {enc : TypeId × Value → H}
    (hf : P.funcs[k]? = some fn) (hb : lawB P E.T fn ps = true) (hL : Loops E L fn) (hvars : spec.vars = [])
    (hspec : ∀ ds : List (DataW H), ds.length = ps.length → spec.fn H ds = { results := [.lit (.bool true)], args := ds }) (heval : ∀ ds : PD ps, okPs ps ds → evalF E L fn ps (.one false .bool) ds = some true)
    {W : World} {base : Nat} {args : Array Value} {ds gs : List (DataW H)} {before : List MemPlace} (hval : ∀ (j : Nat) t v, fn.params[j]? = some t → args[j]? = some v → Value.okWide P W .any base t v)
    (hW : DataW.Whole enc P fn.params.toList spec.vars false W args.toList ds gs before) : Calls P k args W fun e W' => ∃ v, e = .returned v ∧ spec.post enc P fn false true false false W args v W' := by
  simp only [lawB, Bool.and_eq_true] at hb
  obtain ⟨⟨⟨⟨h1, h2⟩, h3⟩, h4⟩, h5⟩ := hb
  obtain ⟨c, hc, hL⟩ := hL
  split at h5
  · rename_i tb hr
    split at h5
    · rename_i ht
      have hr' : fn.resultTypes = #[tb] := by
        have := congrArg List.toArray hr
        simpa using this
      exact law_calls ok h4 hf hc h1 (Nat.le_of_ble_eq_true h2) hL hvars hspec hr' ht (by simpa using h3) heval hval hW
    · cases h5
  · cases h5

/-! ### functions without a body -/
theorem Lands.of_extern {P : Program} {f : FuncId} {fn : Func} {args : Array Value} {w : World} {R : Value → World → Prop} {e : Array Value → Sem Value} {v : Value} (hf : P.funcs[f]? = some fn) (hname : (fn.name == "runtime.NumGoroutine") = false) (hb : fn.body.isNone = true)
    (hn : Extern.findNext fn = none) (he : Extern.find fn = some e) (hrun : (e args).run P w = .ok v w) (hR : R v w) : Lands P f args w R := by
  intro o a next Q hnext
  have hr : (callFunc f args).run P w = .ok (.value v) w := by rw [run_callFunc_extern hf hname hb hn he, hrun]; rfl
  rw [hr, Oper.upon_value]
  exact hnext v w hR

/-- A number as a model's only data. -/
theorem Ext.same (w : World) : Ext w w := Ext.refl w

def mBits (k : FloatKind) (i : IntKind) : FM := { ps := [.ro false (.flt k)], res := .one false (.int i), run := fun x => bif isNan k x.1 then none else some (x.1 : Int) }
def mFrom (k : FloatKind) (i : IntKind) : FM := { ps := [.ro false (.int i)], res := .one false (.flt k), run := fun x => some (canon k x.1.toNat) }

theorem arg1 {h : Heap} {T : Nat → Prop} {τ : Ty} {x : PD [.ro false τ]} {vs : List Value} (ha : ArgsRel h T [.ro false τ] x vs (fun _ => False)) : ∃ v, vs = [v] ∧ Rep h T τ x.1 [v] := by
  obtain ⟨v, vr, _, _, rfl, h1, h2, _⟩ := ha
  cases h2
  exact ⟨v, rfl, h1.1⟩

theorem FmOK.bits {P : Program} {f : FuncId} {fn : Func} {e : Array Value → Sem Value} {k : FloatKind} {i : IntKind} (hf : P.funcs[f]? = some fn) (hname : (fn.name == "runtime.NumGoroutine") = false) (hb : fn.body.isNone = true)
    (hn : Extern.findNext fn = none) (he : Extern.find fn = some e) (hrun : ∀ b w, (e #[.float k b]).run P w = .ok (.int i b) w) (hmin : i.min ≤ 0) (hk : (2 : Int) ^ k.format.width ≤ i.max + 1) : FmOK P f (mBits k i) := by
  intro w args ds out ha hr
  obtain ⟨v, rfl, b, e', hrel⟩ := arg1 ha
  have e' : v = .float k b := by simpa using e'
  subst e'
  simp only [mBits] at hr
  cases hnan : isNan k ds.1
  · rw [hnan] at hr
    have hr : (ds.1 : Int) = out := Option.some.inj hr
    have hbx := hrel.eq hnan
    refine Lands.of_extern hf hname hb hn he (hrun b w) ⟨Ext.refl w, fun _ => False, ⟨[.int i b], nofun, fun _ => rfl, ?_⟩, fun c hc => hc.elim⟩
    refine ⟨?_, ?_⟩
    · rw [← hr, hbx]
    · have h1 := hrel.1
      rw [hbx] at h1
      have h2 : ((ds.1 : Nat) : Int) < 2 ^ k.format.width := by exact_mod_cast h1
      rw [← hr]
      exact ⟨by omega, by omega⟩
  · rw [hnan] at hr; cases hr

theorem FmOK.from {P : Program} {f : FuncId} {fn : Func} {e : Array Value → Sem Value} {k : FloatKind} {i : IntKind} (hf : P.funcs[f]? = some fn) (hname : (fn.name == "runtime.NumGoroutine") = false) (hb : fn.body.isNone = true)
    (hn : Extern.findNext fn = none) (he : Extern.find fn = some e) (hrun : ∀ n w, (e #[.int i n]).run P w = .ok (.float k n.toNat) w) (hmin : 0 ≤ i.min) (hk : i.max < 2 ^ k.format.width) : FmOK P f (mFrom k i) := by
  intro w args ds out ha hr
  obtain ⟨v, rfl, e', hin⟩ := arg1 ha
  have e' : v = .int i ds.1 := by simpa using e'
  subst e'
  have hr : canon k ds.1.toNat = out := Option.some.inj hr
  refine Lands.of_extern hf hname hb hn he (hrun ds.1 w) ⟨Ext.refl w, fun _ => False, ⟨[.float k ds.1.toNat], nofun, fun _ => rfl, ?_⟩, fun c hc => hc.elim⟩
  refine ⟨ds.1.toNat, rfl, ?_⟩
  rw [← hr]
  refine FRel.mk' ?_
  obtain ⟨h1, h2⟩ := hin
  have h3 : ((ds.1.toNat : Nat) : Int) = ds.1 := Int.toNat_of_nonneg (by omega)
  have h4 : ((ds.1.toNat : Nat) : Int) < ((2 ^ k.format.width : Nat) : Int) := by rw [h3]; push_cast; omega
  exact_mod_cast h4

end Go.Fw
/- Functions with loops. No condition. -/
namespace Go.Fw

def loopsOf : Code → List Code
  | .seq a b => loopsOf a ++ loopsOf b
  | .cond _ a b => loopsOf a ++ loopsOf b
  | .block _ c => loopsOf c
  | .loop c => c :: loopsOf c
  | _ => []

theorem loopsOf_spec {E : Tabs} {L : Nat → Option LP} {n : Nat} : ∀ c : Code, (∀ b, b ∈ loopsOf c → ∀ r lm, firstReg b = some r → L r = some (.lm lm) → LoopOK E L n b lm) → LoopsOK E L n c := by
  intro c
  induction c with
  | seq a b iha ihb => intro h; exact ⟨iha fun x hx => h x (List.mem_append.2 (.inl hx)), ihb fun x hx => h x (List.mem_append.2 (.inr hx))⟩
  | cond o a b iha ihb => intro h; exact ⟨iha fun x hx => h x (List.mem_append.2 (.inl hx)), ihb fun x hx => h x (List.mem_append.2 (.inr hx))⟩
  | block i c ih => intro h; exact ih h
  | loop c ih => intro h; exact ⟨h c (.head _), ih fun x hx => h x (.tail _ hx)⟩
  | _ => intro _; trivial

def fnLoops (fn : Func) : List Code := match fn.body with
  | some c => loopsOf c
  | none => []

/-- The i-th loop's body. -/
def loopAt (fn : Func) (i : Nat) : Code := (fnLoops fn).getD i .skip

def hasBody (fn : Func) : Bool := match fn.body with
  | some _ => true
  | none => false

theorem Loops.all {E : Tabs} {L : Nat → Option LP} {fn : Func} (hb : hasBody fn = true) (h : ∀ i, i < (fnLoops fn).length → ∀ r lm, firstReg (loopAt fn i) = some r → L r = some (.lm lm) → LoopOK E L fn.ntmps (loopAt fn i) lm) : Loops E L fn := by
  unfold hasBody at hb
  split at hb
  · rename_i c hc
    refine ⟨c, hc, loopsOf_spec c fun b hbm r lm hr hl => ?_⟩
    obtain ⟨i, hi⟩ := List.getElem?_of_mem hbm
    have hlt := (List.getElem?_eq_some_iff.1 hi).1
    have hf : fnLoops fn = loopsOf c := by unfold fnLoops; rw [hc]
    have he : loopAt fn i = b := by unfold loopAt; rw [hf, List.getD_eq_getElem?_getD, hi]; rfl
    have := h i (by rw [hf]; exact hlt) r lm (by rw [he]; exact hr) hl
    rwa [he] at this
  · cases hb

def oneL (r : Nat) (lm : LM) : Nat → Option LP := fun q => bif Nat.beq q r then some (.lm lm) else none

theorem Loops.one {E : Tabs} {fn : Func} {r : Nat} {lm : LM} (hb : hasBody fn = true) (hlen : (fnLoops fn).length = 1) (h : LoopOK E (oneL r lm) fn.ntmps (loopAt fn 0) lm) : Loops E (oneL r lm) fn := by
  refine Loops.all hb fun i hi q lm' _ hl => ?_
  have hi0 : i = 0 := by omega
  subst hi0
  unfold oneL at hl
  cases hq : Nat.beq q r
  · rw [hq] at hl; cases hl
  · rw [hq] at hl
    simp only [cond_true, Option.some.injEq, LP.lm.injEq] at hl
    subst hl
    exact h

/-- Rounds, at most so many. -/
def iter {D O : Type} (step : (D → Option O) → D → Option O) : Nat → D → Option O
  | 0 => fun _ => none
  | k + 1 => step (iter step k)

theorem LoopOK.iter {E : Tabs} {L : Nat → Option LP} {n : Nat} {body : Code} {lm : LM} {step : (lm.head.D → Option (LRes lm.rets lm.out.D)) → lm.head.D → Option (LRes lm.rets lm.out.D)} {N : lm.head.D → Nat} (hround : ∀ rec' x, round E L lm n body rec' x = step rec' x) (hrun : ∀ x, lm.run x = Fw.iter step (N x) x) : LoopOK E L n body lm := by
  have key : ∀ k, roundN E L lm n body k = Fw.iter step k := by
    intro k
    induction k with
    | zero => rfl
    | succ k ih =>
      funext x
      show round E L lm n body (roundN E L lm n body k) x = step (Fw.iter step k) x
      rw [hround, ih]
  intro x y h
  rw [hrun] at h
  exact ⟨N x, by rw [key]; exact h⟩

end Go.Fw
/- Tables of models; functions with loops; the plain words that printed texts use. No condition. -/
namespace Go.Fw

def ent {α : Type} : List (Nat × α) → FuncId → List α
  | [], _ => []
  | (k, m) :: r, f => bif Nat.beq k f then m :: ent r f else ent r f

theorem ent_mem {α : Type} : ∀ {l : List (Nat × α)} {f : FuncId} {m : α}, m ∈ ent l f → (f, m) ∈ l
  | [], _, _, h => by cases h
  | (k, m') :: r, f, m, h => by
    simp only [ent] at h
    cases hb : Nat.beq k f
    · rw [hb] at h; exact .tail _ (ent_mem h)
    · rw [hb] at h
      have := Nat.eq_of_beq_eq_true hb
      subst this
      cases h with
      | head => exact .head _
      | tail _ h => exact .tail _ (ent_mem h)

def mkE (T : List (Nat × TI)) (l : List (Nat × FM)) (x : List (Nat × FX)) : Tabs := { T := lookT T, pur := ent l, mutf := ent x }

def AllF (P : Program) (l : List (Nat × FM)) : Prop := ∀ f m, (f, m) ∈ l → FmOK P f m
def AllX (P : Program) (l : List (Nat × FX)) : Prop := ∀ f m, (f, m) ∈ l → FxOK P f m
theorem AllF.nil {P : Program} : AllF P [] := fun _ _ h => by cases h
theorem AllF.cons {P : Program} {f : Nat} {m : FM} {l : List (Nat × FM)} (h : FmOK P f m) (hl : AllF P l) : AllF P ((f, m) :: l) := fun g m' hm => by
  cases hm with
  | head => exact h
  | tail _ hm => exact hl g m' hm
theorem AllX.nil {P : Program} : AllX P [] := fun _ _ h => by cases h
theorem AllX.cons {P : Program} {f : Nat} {m : FX} {l : List (Nat × FX)} (h : FxOK P f m) (hl : AllX P l) : AllX P ((f, m) :: l) := fun g m' hm => by
  cases hm with
  | head => exact h
  | tail _ hm => exact hl g m' hm

theorem mkE_ok {P : Program} {T : List (Nat × TI)} {l : List (Nat × FM)} {x : List (Nat × FX)} (ht : TabOK P (lookT T)) (hm : P.follows .mixedOrders = true) (hl : AllF P l) (hx : AllX P x) : EnvOK P (mkE T l x) :=
  ⟨ht, fun f m h => hl f m (ent_mem h), fun f m h => hx f m (ent_mem h), hm⟩

def noL : Nat → Option LP := fun _ => none

/-! ### loops, by a list -/
def lookL : List (Nat × LP) → Nat → Option LP
  | [], _ => none
  | (r, p) :: l, q => bif Nat.beq r q then some p else lookL l q

def LoopsI (E : Tabs) (L : Nat → Option LP) (fn : Func) : Nat → List (Nat × LP) → Prop
  | _, [] => True
  | i, (_, .lm lm) :: l => LoopOK E L fn.ntmps (loopAt fn i) lm ∧ LoopsI E L fn (i + 1) l
  | i, (_, .unroll _) :: l => LoopsI E L fn (i + 1) l

/-- The list has the loops' first regions, each once. -/
def regsB (fn : Func) (l : List (Nat × LP)) : Bool := decide ((fnLoops fn).map firstReg = l.map fun p => some p.1) && nodupB (l.map (·.1))

theorem lookL_spec : ∀ {l : List (Nat × LP)} {r : Nat} {p : LP} {i : Nat}, nodupB (l.map (·.1)) = true → (∃ q, l[i]? = some (r, q)) → lookL l r = some p → l[i]? = some (r, p)
  | [], r, p, i, _, ⟨q, h⟩, _ => by simp at h
  | (r0, p0) :: l, r, p, i, hn, ⟨q, h⟩, hl => by
    simp only [List.map_cons, nodupB, Bool.and_eq_true, Bool.not_eq_true'] at hn
    simp only [lookL] at hl
    cases i with
    | zero =>
      simp at h
      obtain ⟨rfl, rfl⟩ := h
      rw [Nat.beq_refl] at hl
      cases hl; rfl
    | succ i =>
      simp only [List.getElem?_cons_succ] at h ⊢
      cases hb : Nat.beq r0 r
      · rw [hb] at hl
        exact lookL_spec hn.2 ⟨q, h⟩ hl
      · exfalso
        have e := Nat.eq_of_beq_eq_true hb
        subst e
        have h1 := (memB_false _ _).1 hn.1
        exact h1 (List.mem_map.2 ⟨_, List.mem_of_getElem? h, rfl⟩)

theorem LoopsI_get {E : Tabs} {L : Nat → Option LP} {fn : Func} : ∀ {l : List (Nat × LP)} {k i : Nat} {r : Nat} {lm : LM}, LoopsI E L fn k l → l[i]? = some (r, .lm lm) → LoopOK E L fn.ntmps (loopAt fn (k + i)) lm
  | [], k, i, r, lm, _, h => by simp at h
  | (r0, .lm lm0) :: l, k, i, r, lm, hl, h => by
    cases i with
    | zero => simp at h; obtain ⟨_, rfl⟩ := h; exact hl.1
    | succ i =>
      simp only [List.getElem?_cons_succ] at h
      have := LoopsI_get hl.2 h
      rwa [show k + (i + 1) = k + 1 + i by omega]
  | (r0, .unroll n) :: l, k, i, r, lm, hl, h => by
    cases i with
    | zero => simp at h
    | succ i =>
      simp only [List.getElem?_cons_succ] at h
      have := LoopsI_get (k := k + 1) hl h
      rwa [show k + (i + 1) = k + 1 + i by omega]

theorem Loops.list {E : Tabs} {fn : Func} {l : List (Nat × LP)} (hb : hasBody fn = true) (hr : regsB fn l = true) (h : LoopsI E (lookL l) fn 0 l) : Loops E (lookL l) fn := by
  simp only [regsB, Bool.and_eq_true, decide_eq_true_eq] at hr
  obtain ⟨h1, h2⟩ := hr
  refine Loops.all hb fun i hi r lm hf hl => ?_
  have e : (fnLoops fn)[i]? = some (loopAt fn i) := by
    unfold loopAt
    rw [List.getD_eq_getElem?_getD, List.getElem?_eq_getElem hi]; rfl
  have e2 : ((fnLoops fn).map firstReg)[i]? = some (some r) := by rw [List.getElem?_map, e, Option.map_some, hf]
  rw [h1, List.getElem?_map] at e2
  cases hx : l[i]? with
  | none => rw [hx] at e2; cases e2
  | some p =>
    rw [hx] at e2
    obtain ⟨r', q⟩ := p
    simp at e2
    subst e2
    have := lookL_spec h2 ⟨q, hx⟩ hl
    have := LoopsI_get h this
    rwa [Nat.zero_add] at this

/-! ### the plain words -/
def fuel : Nat := 18446744073709551616

theorem bif_some_some {α : Type} (c : Bool) (x y : α) : (bif c then some x else some y) = some (bif c then x else y) := by cases c <;> rfl

end Go.Fw
/- Functions without a body: their plain words and their models. No condition. -/
namespace Go.Fw

def g_float32bits (x : Nat) : Option Int := bif isNan .f32 x then none else some (x : Int)
def g_float64bits (x : Nat) : Option Int := bif isNan .f64 x then none else some (x : Int)
def t_float32frombits (n : Int) : Nat := canon .f32 n.toNat
def t_float64frombits (n : Int) : Nat := canon .f64 n.toNat
/-- The square root. -/
def t_mathsqrt (x : Nat) : Nat := match FloatKind.f64.format.sqrt x with
  | some r => r
  | none => qnan .f64

abbrev m_float32bits : FM := mBits .f32 .u32
abbrev m_float64bits : FM := mBits .f64 .u64
abbrev m_float32frombits : FM := mFrom .f32 .u32
abbrev m_float64frombits : FM := mFrom .f64 .u64
def m_mathsqrt : FM := { ps := [.ro false (.flt .f64)], res := .one false (.flt .f64), run := fun x => some (t_mathsqrt x.1) }

theorem Lands.of_extern' {P : Program} {f : FuncId} {fn : Func} {args : Array Value} {w w' : World} {R : Value → World → Prop} {e : Array Value → Sem Value} {v : Value} (hf : P.funcs[f]? = some fn) (hname : (fn.name == "runtime.NumGoroutine") = false) (hb : fn.body.isNone = true)
    (hn : Extern.findNext fn = none) (he : Extern.find fn = some e) (hrun : (e args).run P w = .ok v w') (hR : R v w') : Lands P f args w R := by
  intro o a next Q hnext
  have hr : (callFunc f args).run P w = .ok (.value v) w' := by rw [run_callFunc_extern hf hname hb hn he, hrun]; rfl
  rw [hr, Oper.upon_value]
  exact hnext v w' hR

theorem FmOK.sqrt {P : Program} {f : FuncId} {fn : Func} (hf : P.funcs[f]? = some fn) (hname : (fn.name == "runtime.NumGoroutine") = false) (hb : fn.body.isNone = true)
    (hn : Extern.findNext fn = none) (he : Extern.find fn = some Extern.MathSqrt.sqrt) : FmOK P f m_mathsqrt := by
  intro w args ds out ha hr
  obtain ⟨v, rfl, b, e', hrel⟩ := arg1 ha
  have e' : v = .float .f64 b := by simpa using e'
  subst e'
  have hr : t_mathsqrt ds.1 = out := Option.some.inj hr
  have same : FloatKind.f64.format.sqrt ds.1 = FloatKind.f64.format.sqrt b := by
    cases hx : isNan .f64 ds.1
    · rw [hrel.eq hx]
    · have h1 : ∀ y, isNan .f64 y = true → FloatKind.f64.format.sqrt y = none := fun y hy => by
        obtain ⟨s, t, e⟩ := read_nan hy
        unfold Ieee.Format.sqrt
        rw [e]; rfl
      rw [h1 _ hx, h1 _ (hrel.isNan ▸ hx)]
  have done : ∀ (r : Nat) (n : Nat), (Extern.MathSqrt.sqrt #[.float .f64 b]).run P w = .ok (.float .f64 r) { w with drawn := n } → FRel .f64 out r →
      Lands P f #[.float .f64 b] w fun v w' => Ext w w' ∧ ∃ F, ResRel w'.heap (fun _ => False) m_mathsqrt.res out v F ∧ ∀ c, F c → w.heap.size ≤ c ∧ c < w'.heap.size := fun r n hrun hr =>
    Lands.of_extern' hf hname hb hn he hrun ⟨Ext.draw w n, fun _ => False, ⟨[.float .f64 r], nofun, fun _ => rfl, r, rfl, hr⟩, fun c hc => hc.elim⟩
  have eS : Extern.MathSqrt.sqrt #[.float .f64 b] = (match FloatKind.f64.format.sqrt b with
      | some r => pure (.float .f64 r)
      | none => do pure (.float .f64 (← choose (.nanBits .f64 b b)))) := rfl
  cases hs : FloatKind.f64.format.sqrt b with
  | some r =>
    refine done r w.drawn (by rw [eS, hs]; simp) ?_
    have : out = r := by rw [← hr]; unfold t_mathsqrt; rw [same, hs]
    rw [this]
    exact FRel.of_num (Ieee.Format.sqrt_lt _ hs) (map_write_not_nan .f64 (fun d hd => root_not_nan hd) hs)
  | none =>
    obtain ⟨h1, h2⟩ := cut_nan .f64 (.nanBits .f64 b b) (w.tape w.drawn (.nanBits .f64 b b)) b b (.inl rfl)
    refine done ((Question.nanBits .f64 b b).cut (w.tape w.drawn (.nanBits .f64 b b))) (w.drawn + 1) (by rw [eS, hs]; simp [Question.forced]) ?_
    have : out = qnan .f64 := by rw [← hr]; unfold t_mathsqrt; rw [same, hs]
    rw [this]
    exact FRel.of_nan h1 h2
end Go.Fw
/- Floating point numbers: widening is exact; the subnormal numbers of single precision. No condition. -/
namespace Go.Fw
open Ieee

/-- The word of a number of single precision that is not zero, in double precision. -/
theorem near64_read (s : Bool) {m : Nat} {e : Int} (hm0 : m ≠ 0) (hm : m < 2 ^ 24) (he1 : -149 ≤ e) (he2 : e ≤ 104) :
    ∃ g, FloatKind.f64.format.nearest s m e = FloatKind.f64.format.word s g ∧ FloatKind.f64.format.binade ≤ g ∧ g < FloatKind.f64.format.infRung ∧
      FloatKind.f64.format.binade + g % FloatKind.f64.format.binade = m * 2 ^ (52 - m.log2) ∧ ((g / FloatKind.f64.format.binade - 1 : Nat) : Int) = e + m.log2 + 1022 := by
  have hI : FloatKind.f64.format.infRung = 2047 * FloatKind.f64.format.binade := rfl
  have hB : 0 < FloatKind.f64.format.binade := Nat.two_pow_pos _
  have hBe : FloatKind.f64.format.binade = 2 ^ 52 := rfl
  have e1 : FloatKind.f64.format.fractionBits = 52 := rfl
  have e2 : FloatKind.f64.format.leastPlace = -1074 := rfl
  generalize FloatKind.f64.format = fm at *
  unfold Format.nearest
  rw [if_neg hm0]
  have hl : m.log2 ≤ 23 := by
    have : m.log2 < 24 := (Nat.log2_lt hm0).2 hm
    omega
  have hlast : max (e + (m.log2 : Int) - (52 : Nat)) (-1074) = e + m.log2 - 52 := by omega
  simp only [e1, e2, hlast]
  have h5 : (e - (e + (m.log2 : Int) - 52)).toNat = 52 - m.log2 := by omega
  have h7 : m < 2 ^ (m.log2 + 1) := Nat.lt_log2_self
  have h8 : m * 2 ^ (52 - m.log2) < 2 ^ (m.log2 + 1) * 2 ^ (52 - m.log2) := Nat.mul_lt_mul_of_pos_right h7 (Nat.two_pow_pos _)
  rw [← Nat.pow_add, show m.log2 + 1 + (52 - m.log2) = 52 + 1 by omega, Nat.pow_succ, ← hBe] at h8
  have h9 : 2 ^ m.log2 ≤ m := Nat.log2_self_le hm0
  have h10 : 2 ^ m.log2 * 2 ^ (52 - m.log2) ≤ m * 2 ^ (52 - m.log2) := Nat.mul_le_mul_right _ h9
  rw [← Nat.pow_add, show m.log2 + (52 - m.log2) = 52 by omega, ← hBe] at h10
  obtain ⟨q, hq⟩ : ∃ q : Nat, (q : Int) = e + m.log2 + 1022 := ⟨(e + m.log2 + 1022).toNat, by omega⟩
  have hq2 : (e + (m.log2 : Int) - 52 - -1074).toNat = q := by omega
  rw [show (e + (m.log2 : Int) - 52 - e).toNat = m.log2 - 52 by omega, show m.log2 - 52 = 0 by omega, cut_zero, Nat.shiftLeft_eq, h5, hq2]
  generalize m * 2 ^ (52 - m.log2) = kept at *
  have h11 : q * fm.binade ≤ 1149 * fm.binade := Nat.mul_le_mul_right _ (by omega)
  have h12 : min (q * fm.binade + kept) fm.infRung = q * fm.binade + kept := by rw [hI]; omega
  refine ⟨q * fm.binade + kept, by rw [h12], by omega, by rw [hI]; omega, ?_, ?_⟩
  · have : (q * fm.binade + kept) % fm.binade = kept - fm.binade := by
      rw [show q * fm.binade + kept = (kept - fm.binade) + fm.binade * (q + 1) by rw [Nat.mul_add, Nat.mul_comm fm.binade q]; omega, Nat.add_mul_mod_self_left, Nat.mod_eq_of_lt (by omega)]
    omega
  · have : (q * fm.binade + kept) / fm.binade = q + 1 := by
      rw [show q * fm.binade + kept = (kept - fm.binade) + fm.binade * (q + 1) by rw [Nat.mul_add, Nat.mul_comm fm.binade q]; omega, Nat.add_mul_div_left _ _ hB, Nat.div_eq_of_lt (by omega)]
      omega
    rw [this]
    omega

/-- The magnitude in double precision. -/
def abs64 (x : Nat) : Nat := canon .f64 (x % 2 ^ 63)

/-- 2 to the power of -126. -/
def least32 : Nat := 4039728865751334912

theorem read_least : FloatKind.f64.format.read least32 = .number false 4503599627370496 (-178) := by decide +kernel

theorem flt_nan {k : FloatKind} {x y : Nat} (h : isNan k x = true) : flt k x y = false := by
  unfold flt; rw [order_nan_left h]; rfl

/-- The subnormal numbers, and zero, are the small ones. -/
theorem small_iff {x r : Nat} (hn : isNan .f32 x = false) (h0 : x % 2 ^ 31 ≠ 0) (hr : fconv .f32 .f64 x = some r) : flt .f64 (abs64 r) least32 = decide (x % 2 ^ 31 < 2 ^ 23) := by
  have hsw : FloatKind.f32.format.signWeight = 2 ^ 31 := rfl
  have hB : FloatKind.f32.format.binade = 8388608 := rfl
  have hI : FloatKind.f32.format.infRung = 2139095040 := rfl
  have hL : FloatKind.f32.format.leastPlace = -149 := rfl
  have hsw64 : FloatKind.f64.format.signWeight = 2 ^ 63 := rfl
  have hL64 : FloatKind.f64.format.leastPlace = -1074 := rfl
  have num : ∀ (m : Nat) (e : Int), m ≠ 0 → FloatKind.f32.format.read x = .number (x / 2 ^ 31 % 2 == 1) m e → m < 2 ^ 24 → -149 ≤ e → e ≤ 104 → flt .f64 (abs64 r) least32 = decide (e + m.log2 + 1022 < 896) := by
    intro m e hm0 hrd hm he1 he2
    obtain ⟨g, hg, hg1, hg2, hg3, hg4⟩ := near64_read (x / 2 ^ 31 % 2 == 1) hm0 hm he1 he2
    have hgs : g < FloatKind.f64.format.signWeight := Nat.lt_trans hg2 FloatKind.f64.format.infRung_lt
    obtain ⟨p1, p2⟩ := word_parts .f64 (x / 2 ^ 31 % 2 == 1) hgs
    have henc : FloatKind.f64.encode (.number (x / 2 ^ 31 % 2 == 1) m e) = FloatKind.f64.format.word (x / 2 ^ 31 % 2 == 1) g := hg
    have hni : (FloatKind.f64.decode (FloatKind.f64.encode (.number (x / 2 ^ 31 % 2 == 1) m e))).isInfinity = false := by
      rw [henc]
      obtain ⟨m', e', hr', _⟩ := read_fin FloatKind.f64.format (FloatKind.f64.format.word (x / 2 ^ 31 % 2 == 1) g) (by rw [p2]; exact hg2)
      show (FloatKind.f64.format.read _).isInfinity = false
      rw [hr']; rfl
    have hre := conv_num hn hrd hni
    rw [hr, henc] at hre
    have hre := Option.some.inj hre
    have hmod : r % 2 ^ 63 = g := by rw [hre, ← hsw64]; exact p2
    have hgm : g % FloatKind.f64.format.signWeight = g := Nat.mod_eq_of_lt hgs
    have hgd : g / FloatKind.f64.format.signWeight = 0 := Nat.div_eq_of_lt hgs
    have hread : FloatKind.f64.format.read g = .number false (m * 2 ^ (52 - m.log2)) (-1074 + (e + m.log2 + 1022)) := by
      rcases read_cases FloatKind.f64.format g with ⟨h1, _⟩ | ⟨_, _, h2⟩ | ⟨h1, _⟩ | ⟨h1, _⟩
      · rw [hgm] at h1; omega
      · rw [h2, hgm, hgd, hg3, hg4, hL64]; rfl
      · rw [hgm] at h1; omega
      · rw [hgm] at h1; omega
    have hnan : isNan .f64 g = false := by
      show (FloatKind.f64.format.read g).isNaN = false
      rw [hread]; rfl
    have ha : abs64 r = g := by unfold abs64; rw [hmod, canon_num hnan]
    rw [ha]
    unfold flt Format.order
    rw [hread, read_least]
    have hl : m.log2 ≤ 23 := by
      have : m.log2 < 24 := (Nat.log2_lt hm0).2 hm
      omega
    have h7 : m < 2 ^ (m.log2 + 1) := Nat.lt_log2_self
    have h9 : 2 ^ m.log2 ≤ m := Nat.log2_self_le hm0
    have h8 : m * 2 ^ (52 - m.log2) < 2 ^ (m.log2 + 1) * 2 ^ (52 - m.log2) := Nat.mul_lt_mul_of_pos_right h7 (Nat.two_pow_pos _)
    rw [← Nat.pow_add, show m.log2 + 1 + (52 - m.log2) = 53 by omega] at h8
    have h10 : 2 ^ m.log2 * 2 ^ (52 - m.log2) ≤ m * 2 ^ (52 - m.log2) := Nat.mul_le_mul_right _ h9
    rw [← Nat.pow_add, show m.log2 + (52 - m.log2) = 52 by omega] at h10
    generalize m * 2 ^ (52 - m.log2) = kept at *
    simp only [Datum.order]
    rw [signed_eq, signed_eq]
    simp only [Bool.false_eq_true, if_false, Int.one_mul]
    rw [Bool.eq_iff_iff]
    simp only [beq_iff_eq, Option.some.injEq, decide_eq_true_eq, Int.compare_eq_lt]
    by_cases hc : e + m.log2 + 1022 < 896
    · have e3 : (-1074 + (e + (m.log2 : Int) + 1022) - min (-1074 + (e + (m.log2 : Int) + 1022)) (-178)).toNat = 0 := by omega
      obtain ⟨u, hu⟩ : ∃ u, (-178 - min (-1074 + (e + (m.log2 : Int) + 1022)) (-178)).toNat = u + 1 := ⟨(-178 - min (-1074 + (e + (m.log2 : Int) + 1022)) (-178)).toNat - 1, by omega⟩
      rw [e3, hu]
      refine ⟨fun _ => hc, fun _ => ?_⟩
      have h12 : 2 ^ 1 ≤ 2 ^ (u + 1) := Nat.pow_le_pow_right (by omega) (by omega)
      have h13 : 4503599627370496 * 2 ^ 1 ≤ 4503599627370496 * 2 ^ (u + 1) := Nat.mul_le_mul_left _ h12
      have h14 : kept * 2 ^ 0 < 4503599627370496 * 2 ^ (u + 1) := by omega
      exact Int.ofNat_lt.2 h14
    · have e3 : (-178 - min (-1074 + (e + (m.log2 : Int) + 1022)) (-178)).toNat = 0 := by omega
      rw [e3]
      refine ⟨fun h => ?_, fun h => absurd h hc⟩
      exfalso
      have h14 : kept * 2 ^ (-1074 + (e + (m.log2 : Int) + 1022) - min (-1074 + (e + (m.log2 : Int) + 1022)) (-178)).toNat < 4503599627370496 * 2 ^ 0 := Int.ofNat_lt.1 h
      have h15 : kept * 1 ≤ kept * 2 ^ (-1074 + (e + (m.log2 : Int) + 1022) - min (-1074 + (e + (m.log2 : Int) + 1022)) (-178)).toNat := Nat.mul_le_mul_left _ (Nat.two_pow_pos _)
      omega
  rcases read_cases FloatKind.f32.format x with ⟨h1, h2⟩ | ⟨h1, h3, h2⟩ | ⟨h1, h2⟩ | ⟨h1, t, h2⟩
  · rw [hsw, hB] at h1
    rw [hsw, hL] at h2
    rw [num _ _ h0 h2 (by omega) (by omega) (by omega)]
    have : (x % 2 ^ 31).log2 < 23 := (Nat.log2_lt h0).2 (by omega)
    rw [decide_eq_true (by omega), decide_eq_true (by omega)]
  · rw [hsw, hB] at h1
    rw [hsw, hI] at h3
    rw [hsw, hL, hB] at h2
    have hm := Nat.mod_lt (x % 2 ^ 31) (show 0 < 8388608 by omega)
    have hd : x % 2 ^ 31 / 8388608 < 255 := Nat.div_lt_of_lt_mul (by omega)
    have hm0 : 8388608 + x % 2 ^ 31 % 8388608 ≠ 0 := by omega
    rw [num _ _ hm0 h2 (by omega) (by omega) (by omega)]
    have : 23 ≤ (8388608 + x % 2 ^ 31 % 8388608).log2 := (Nat.le_log2 hm0).2 (by omega)
    rw [decide_eq_false (by omega), decide_eq_false (by omega)]
  · rw [hsw, hI] at h1
    rw [hsw] at h2
    have hre := conv_inf hn h2
    rw [hr] at hre
    have hre := Option.some.inj hre
    have e0 : ∀ s, FloatKind.f64.encode (.infinity s) = FloatKind.f64.format.word s FloatKind.f64.format.infRung := fun _ => rfl
    have hmod : r % 2 ^ 63 = FloatKind.f64.format.infRung := by rw [hre, e0, ← hsw64]; exact word_mod _ _ FloatKind.f64.format.infRung_lt
    have hread : FloatKind.f64.format.read FloatKind.f64.format.infRung = .infinity false := by decide +kernel
    have ha : abs64 r = FloatKind.f64.format.infRung := by
      unfold abs64
      rw [hmod, canon_num]
      show (FloatKind.f64.format.read _).isNaN = false
      rw [hread]; rfl
    rw [ha]
    unfold flt Format.order
    rw [hread, read_least]
    rw [decide_eq_false (by omega)]
    rfl
  · exfalso
    have : isNan .f32 x = true := by
      show (FloatKind.f32.format.read x).isNaN = true
      rw [h2]; rfl
    rw [hn] at this; cases this

end Go.Fw
/- The magnitude of a number: a function whose run is known. No condition. -/
namespace Go.Fw

def t_mathabs (x : Nat) : Nat := abs64 x
def m_mathabs : FM := { ps := [.ro false (.flt .f64)], res := .one false (.flt .f64), run := fun x => some (t_mathabs x.1) }

theorem andNot63 (b : Nat) (h : b < 2 ^ 64) : iandNot .u64 b (2 ^ 63) = ((b % 2 ^ 63 : Nat) : Int) := by
  have := u64_andNot_nat b (2 ^ 63) (by omega) (by decide)
  have e : ((2 ^ 63 : Nat) : Int) = 2 ^ 63 := by decide
  rw [e] at this
  refine Eq.trans this ?_
  rw [show (18446744073709551615 - 2 ^ 63 : Nat) = 2 ^ 63 - 1 by decide, Nat.and_two_pow_sub_one_eq_mod]

theorem isNan_mod63 (z : Nat) : isNan .f64 (z % 2 ^ 63) = isNan .f64 z := isNan_mod .f64 _ _ (by
  show z % 2 ^ 63 % 2 ^ 63 = z % 2 ^ 63
  exact Nat.mod_mod _ _)

theorem FmOK.abs {P : Program} {f : FuncId} {fn : Func} (hf : P.funcs[f]? = some fn) (hb : fn.body.isNone = false) (hn : (fn.name == "runtime.NumGoroutine") = false)
    (hcall : ∀ (b : Nat) (w : World), Calls P f #[.float .f64 b] w fun e w' => e = .returned (.float .f64 (iandNot .u64 b (2 ^ 63)).toNat) ∧ w' = w) : FmOK P f m_mathabs := by
  intro w args ds out ha hr
  obtain ⟨v, rfl, b, e', hrel⟩ := arg1 ha
  have e' : v = .float .f64 b := by simpa using e'
  subst e'
  have hr : abs64 ds.1 = out := Option.some.inj hr
  have hb : b < 2 ^ 64 := hrel.1
  have hcall := hcall b w
  rw [andNot63 b hb] at hcall
  refine Lands.of_calls hf (by assumption) hn (hcall.mono ?_)
  rintro e w' ⟨rfl, rfl⟩
  refine ⟨_, rfl, Ext.refl _, fun _ => False, ⟨[.float .f64 (b % 2 ^ 63)], nofun, fun _ => rfl, ?_⟩, fun c hc => hc.elim⟩
  refine ⟨b % 2 ^ 63, rfl, ?_⟩
  rw [← hr]
  have hlt : b % 2 ^ 63 < 2 ^ FloatKind.f64.format.width := Nat.lt_trans (Nat.mod_lt _ (by decide)) (by decide)
  have := FRel.mk' hlt
  have e : Fw.canon .f64 (b % 2 ^ 63) = abs64 ds.1 := by
    unfold abs64
    cases hn : isNan .f64 ds.1
    · rw [hrel.eq hn]
    · have hbn : isNan .f64 b = true := hrel.isNan.symm.trans hn
      rw [canon_nan (by rw [isNan_mod63]; exact hbn), canon_nan (by rw [isNan_mod63]; exact hn)]
  rw [← e]; exact this
end Go.Fw
/- Plain facts for printed texts: indices, loops over lists, what the laws' own functions do (copy, compare, measure, mark, hold). No condition. -/
namespace Go.Fw

theorem wrap_i64 {n : Int} (h : -9223372036854775808 ≤ n) (h' : n < 9223372036854775808) : IntKind.i64.wrap n = n := by
  rw [IntKind.wrap_i64]; omega

theorem iadd_ok {a b : Int} (h : -9223372036854775808 ≤ a + b) (h' : a + b < 9223372036854775808) : iadd .i64 a b = a + b := wrap_i64 h h'
theorem isub_ok {a b : Int} (h : -9223372036854775808 ≤ a - b) (h' : a - b < 9223372036854775808) : isub .i64 a b = a - b := wrap_i64 h h'
theorem imul_ok {a b : Int} (h : -9223372036854775808 ≤ a * b) (h' : a * b < 9223372036854775808) : imul .i64 a b = a * b := wrap_i64 h h'
theorem iconv_ok {a : Int} (h : -9223372036854775808 ≤ a) (h' : a < 9223372036854775808) : iconv .i64 a = a := wrap_i64 h h'

theorem ix_ok {i : Int} {n : Nat} (h : 0 ≤ i) (h' : i < n) : ix i n = some i.toNat := by
  unfold ix; rw [decide_eq_true h, decide_eq_true h']; rfl
theorem ix_no {i : Int} {n : Nat} (h : ¬ (0 ≤ i ∧ i < n)) : ix i n = none := by
  unfold ix
  by_cases h0 : 0 ≤ i
  · rw [decide_eq_true h0, decide_eq_false (fun hh => h ⟨h0, hh⟩)]; rfl
  · rw [decide_eq_false h0]; rfl
theorem ilt_t {a b : Int} (h : a < b) : ilt a b = true := decide_eq_true h
theorem ilt_f {a b : Int} (h : b ≤ a) : ilt a b = false := decide_eq_false (by omega)
theorem ile_t {a b : Int} (h : a ≤ b) : ile a b = true := decide_eq_true h
theorem ile_f {a b : Int} (h : b < a) : ile a b = false := decide_eq_false (by omega)
theorem ieq_self (a : Int) : ieq a a = true := by simp [ieq]
theorem ieq_t {a b : Int} (h : a = b) : ieq a b = true := by simp [ieq, h]
theorem ieq_f {a b : Int} (h : a ≠ b) : ieq a b = false := by simp [ieq, h]
theorem nz_t {a : Int} (h : a ≠ 0) : nz a = true := by simp [nz, h]
theorem mkOk_t {n m : Int} (h0 : 0 ≤ n) (h1 : n ≤ m) (h2 : m ≤ 4294967296) : mkOk n m = true := by simp [mkOk, h0, h1, h2]
theorem ble_t {n m : Nat} (h : n ≤ m) : Nat.ble n m = true := Nat.ble_eq_true_of_le h

theorem opt_bind_some {α β : Type} (x : α) (f : α → Option β) : Option.bind (some x) f = f x := rfl
theorem opt_bind_none {α β : Type} (f : α → Option β) : Option.bind none f = none := rfl
theorem opt_bind_pure {α : Type} (x : Option α) : (Option.bind x fun y => some y) = x := by cases x <;> rfl
theorem bnot_t : (!true) = false := rfl
theorem bnot_f : (!false) = true := rfl
theorem cond_t {α : Type} (a b : α) : (bif true then a else b) = a := rfl
theorem cond_f {α : Type} (a b : α) : (bif false then a else b) = b := rfl
theorem cond_same {α : Type} (c : Bool) (a : α) : (bif c then a else a) = a := by cases c <;> rfl
theorem beqB_self (b : Bool) : (b == b) = true := by cases b <;> rfl

theorem feq_fofInt (k : FloatKind) (n : Int) : feq k (fofInt k n) (fofInt k n) = true := by
  rw [feq_self, show isNan k (fofInt k n) = false from write_num_not_nan k _ _ _]; rfl

/-! ### an element in the middle -/
section mid
variable {α : Type} (pre : List α) (x : α) (suf : List α)
theorem ix_mid : ix (pre.length : Int) (pre ++ x :: suf).length = some pre.length := by
  rw [ix_ok (by omega) (by simp; omega)]; simp
theorem ilt_mid : ilt (pre.length : Int) ((pre ++ x :: suf).length : Int) = true := ilt_t (by simp; omega)
theorem ilt_end : ilt (pre.length : Int) (pre.length : Int) = false := ilt_f (by omega)
theorem getD_mid (z : α) : (pre ++ x :: suf).getD pre.length z = x := by simp [List.getD_eq_getElem?_getD]
theorem set_mid (y : α) : (pre ++ x :: suf).set pre.length y = pre ++ y :: suf := by simp
end mid

/-! ### sums over lists -/
def sumL {α : Type} (c : α → Nat) : List α → Nat
  | [] => 0
  | x :: r => c x + sumL c r
/-- The measure of a slice: its elements, and what they hold. -/
def szL {α : Type} (s : α → Nat) : List α → Nat
  | [] => 0
  | x :: r => 1 + s x + szL s r
def mkL {α : Type} (m : α → Int → α) (c : α → Nat) : List α → Int → List α
  | [], _ => []
  | x :: r, k => m x k :: mkL m c r (k + c x)
theorem sumL_le {α : Type} {c s : α → Nat} (h : ∀ x, c x ≤ 16 * (1 + s x)) : ∀ l, sumL c l ≤ 16 * szL s l
  | [] => Nat.zero_le _
  | x :: r => by have := h x; have := sumL_le h r; simp only [sumL, szL]; omega
theorem szL_len {α : Type} {s : α → Nat} : ∀ l, l.length ≤ szL s l
  | [] => Nat.zero_le _
  | x :: r => by have := szL_len (s := s) r; simp only [List.length_cons, szL]; omega
theorem szL_mem {α : Type} {s : α → Nat} : ∀ {l : List α} {x : α}, x ∈ l → s x ≤ szL s l
  | y :: r, x, h => by
    cases h with
    | head => simp only [szL]; omega
    | tail _ h => have := szL_mem (s := s) h; simp only [szL]; omega
theorem szL_zero {α : Type} : ∀ l : List α, szL (fun _ => 0) l = l.length
  | [] => rfl
  | x :: r => by have := szL_zero r; simp only [szL, List.length_cons]; omega
theorem szL_sum {α : Type} (s : α → Nat) : ∀ l, szL s l = l.length + sumL s l
  | [] => rfl
  | x :: r => by have := szL_sum s r; simp only [szL, sumL, List.length_cons]; omega

/-! ### loops -/
set_option linter.unusedSimpArgs false
theorem iter_succ {D O : Type} (step : (D → Option O) → D → Option O) (n : Nat) (d : D) : iter step (n + 1) d = step (iter step n) d := rfl

/-- A loop that ends, and what it keeps. -/
theorem iter_inv {D O : Type} {step : (D → Option O) → D → Option O} (P : Nat → D → Prop) (Q : O → Prop)
    (h : ∀ n d, P n d → (∃ o, Q o ∧ ∀ r, step r d = some o) ∨ (∃ d' m, m < n ∧ P m d' ∧ ∀ r, step r d = r d')) :
    ∀ N n d, n < N → P n d → ∃ o, iter step N d = some o ∧ Q o := by
  intro N
  induction N with
  | zero => intro n d h0; omega
  | succ N ih =>
    intro n d hn hp
    rw [iter_succ]
    rcases h n d hp with ⟨o, hq, hs⟩ | ⟨d', m, hm, hp', hs⟩
    · exact ⟨o, hs _, hq⟩
    · rw [hs]; exact ih m d' (by omega) hp'

/-- Two loops side by side. -/
theorem iter_inv2 {D O D' O' : Type} {step : (D → Option O) → D → Option O} {step' : (D' → Option O') → D' → Option O'} (P : Nat → D → D' → Prop) (Q : O → O' → Prop)
    (h : ∀ n d e, P n d e → (∃ o o', Q o o' ∧ (∀ r, step r d = some o) ∧ ∀ r, step' r e = some o') ∨ (∃ d' e' m, m < n ∧ P m d' e' ∧ (∀ r, step r d = r d') ∧ ∀ r, step' r e = r e')) :
    ∀ N n d e, n < N → P n d e → ∃ o o', iter step N d = some o ∧ iter step' N e = some o' ∧ Q o o' := by
  intro N
  induction N with
  | zero => intro n d e h0; omega
  | succ N ih =>
    intro n d e hn hp
    rw [iter_succ, iter_succ]
    rcases h n d e hp with ⟨o, o', hq, hs, hs'⟩ | ⟨d', e', m, hm, hp', hs, hs'⟩
    · exact ⟨o, o', hs _, hs' _, hq⟩
    · rw [hs, hs']; exact ih m d' e' (by omega) hp'

section laws
variable {α : Type}
theorem to_loop {step : ((List α × Int × Unit) × (List α × Unit) → Option (Unit × (List α × Unit))) → (List α × Int × Unit) × (List α × Unit) → Option (Unit × (List α × Unit))} {z : α} {p : α → Prop}
    (h1 : ∀ rec' pre x suf r, p x → (pre ++ x :: suf).length < 4611686018427387904 → step rec' ((pre ++ x :: suf, ((pre.length : Int), ())), (pre ++ z :: r, ())) = rec' ((pre ++ x :: suf, ((pre.length : Int) + 1, ())), (pre ++ x :: r, ())))
    (h2 : ∀ rec' a, step rec' ((a, ((a.length : Int), ())), (a, ())) = some ((), (a, ()))) :
    ∀ (suf pre : List α) (n : Nat), (∀ x ∈ suf, p x) → (pre ++ suf).length < 4611686018427387904 → suf.length < n →
      iter step n ((pre ++ suf, ((pre.length : Int), ())), (pre ++ List.replicate suf.length z, ())) = some ((), (pre ++ suf, ())) := by
  intro suf
  induction suf with
  | nil =>
    intro pre n _h2 _h3 _h4
    obtain _ | n := n
    · simp only [List.length_nil, List.length_cons] at *; omega
    rw [iter_succ]
    simp only [List.append_nil, List.length_nil, List.replicate_zero]
    exact h2 _ _
  | cons x suf ih =>
    intro pre n hp hb hn
    obtain _ | n := n
    · simp only [List.length_nil, List.length_cons] at hn; omega
    rw [iter_succ, List.length_cons, List.replicate_succ, h1 _ _ _ _ _ (hp x (.head _)) hb]
    have := ih (pre ++ [x]) n (fun y hy => hp y (.tail _ hy)) (by simpa using hb) (by simp at hn; omega)
    simpa using this

theorem eq_loop {step : ((List α × List α × Bool × Int × Unit) × Unit → Option (Bool × ((Bool × Unit) × Unit))) → (List α × List α × Bool × Int × Unit) × Unit → Option (Bool × ((Bool × Unit) × Unit))} {p : α → Prop}
    (h1 : ∀ rec' pre x suf t, p x → (pre ++ x :: suf).length < 4611686018427387904 → step rec' ((pre ++ x :: suf, (pre ++ x :: suf, (t, ((pre.length : Int), ())))), ()) = rec' ((pre ++ x :: suf, (pre ++ x :: suf, (t, ((pre.length : Int) + 1, ())))), ()))
    (h2 : ∀ rec' a t, step rec' ((a, (a, (t, ((a.length : Int), ())))), ()) = some (false, ((t, ()), ()))) :
    ∀ (suf pre : List α) (n : Nat) (t : Bool), (∀ x ∈ suf, p x) → (pre ++ suf).length < 4611686018427387904 → suf.length < n →
      iter step n ((pre ++ suf, (pre ++ suf, (t, ((pre.length : Int), ())))), ()) = some (false, ((t, ()), ())) := by
  intro suf
  induction suf with
  | nil =>
    intro pre n t _h3 _h4 _h5
    obtain _ | n := n
    · simp only [List.length_nil, List.length_cons] at *; omega
    rw [iter_succ, List.append_nil]
    exact h2 _ _ _
  | cons x suf ih =>
    intro pre n t hp hb hn
    obtain _ | n := n
    · simp only [List.length_nil, List.length_cons] at hn; omega
    rw [iter_succ, h1 _ _ _ _ _ (hp x (.head _)) hb]
    have := ih (pre ++ [x]) n t (fun y hy => hp y (.tail _ hy)) (by simpa using hb) (by simp at hn; omega)
    simpa using this

theorem sz_loop {step : ((List α × Int × Int × Int × Unit) × Unit → Option (Bool × ((Int × Int × Unit) × Unit))) → (List α × Int × Int × Int × Unit) × Unit → Option (Bool × ((Int × Int × Unit) × Unit))} {s : α → Nat} {p : α → Prop}
    (h1 : ∀ rec' pre x suf (left t : Int), p x → 0 ≤ left → left < 4611686018427387904 → (pre ++ x :: suf).length < 4611686018427387904 → step rec' ((pre ++ x :: suf, (left, (t, ((pre.length : Int), ())))), ()) =
      if (s x : Int) ≤ left then rec' ((pre ++ x :: suf, (left - s x, (t, ((pre.length : Int) + 1, ())))), ()) else some (true, ((-1, (-1, ())), ())))
    (h2 : ∀ rec' a left t, step rec' ((a, (left, (t, ((a.length : Int), ())))), ()) = some (false, ((left, (t, ())), ()))) :
    ∀ (suf pre : List α) (n : Nat) (left t : Int), (∀ x ∈ suf, p x) → 0 ≤ left → left < 4611686018427387904 → (pre ++ suf).length < 4611686018427387904 → suf.length < n →
      iter step n ((pre ++ suf, (left, (t, ((pre.length : Int), ())))), ()) = if (sumL s suf : Int) ≤ left then some (false, ((left - sumL s suf, (t, ())), ())) else some (true, ((-1, (-1, ())), ())) := by
  intro suf
  induction suf with
  | nil =>
    intro pre n left t _h4 h0 _h6 _h7 _h8
    obtain _ | n := n
    · simp only [List.length_nil, List.length_cons] at *; omega
    rw [iter_succ, List.append_nil]
    refine (h2 _ _ _ _).trans ?_
    rw [sumL, if_pos (by simpa using h0)]
    simp
  | cons x suf ih =>
    intro pre n left t hp h0 h3 hb hn
    obtain _ | n := n
    · simp only [List.length_nil, List.length_cons] at hn; omega
    rw [iter_succ, h1 _ _ _ _ _ _ (hp x (.head _)) h0 h3 hb]
    by_cases hc : (s x : Int) ≤ left
    · rw [if_pos hc]
      have := ih (pre ++ [x]) n (left - s x) t (fun y hy => hp y (.tail _ hy)) (by omega) (by omega) (by simpa using hb) (by simp at hn; omega)
      simp only [List.append_assoc, List.singleton_append, List.length_append, List.length_cons, List.length_nil, Nat.zero_add, Int.natCast_add, Int.natCast_one] at this
      rw [this]
      simp only [sumL, Int.natCast_add, Int.sub_sub]
      by_cases hd : (s x : Int) + sumL s suf ≤ left
      · have hd' : (sumL s suf : Int) ≤ left - s x := by omega
        simp only [hd, hd', if_true]
      · have hd' : ¬ ((sumL s suf : Int) ≤ left - s x) := by omega
        simp only [hd, hd', if_false]
    · rw [if_neg hc, if_neg (by simp only [sumL, Int.natCast_add]; omega)]

theorem mark_loop {step : ((Int × Int × Unit) × (List α × Unit) → Option ((Int × Unit) × (List α × Unit))) → (Int × Int × Unit) × (List α × Unit) → Option ((Int × Unit) × (List α × Unit))} {m : α → Int → α} {c : α → Nat} {p : α → Prop}
    (h1 : ∀ rec' pre x suf (k : Int), p x → 0 ≤ k → k + c x < 4611686018427387904 → (pre ++ x :: suf).length < 4611686018427387904 → step rec' ((k, ((pre.length : Int), ())), (pre ++ x :: suf, ())) = rec' ((k + c x, ((pre.length : Int) + 1, ())), (pre ++ m x k :: suf, ())))
    (h2 : ∀ rec' a k, step rec' ((k, ((a.length : Int), ())), (a, ())) = some ((k, ()), (a, ()))) :
    ∀ (suf pre : List α) (n : Nat) (k : Int), (∀ x ∈ suf, p x) → 0 ≤ k → k + sumL c suf < 4611686018427387904 → (pre ++ suf).length < 4611686018427387904 → suf.length < n →
      iter step n ((k, ((pre.length : Int), ())), (pre ++ suf, ())) = some ((k + sumL c suf, ()), (pre ++ mkL m c suf k, ())) := by
  intro suf
  induction suf with
  | nil =>
    intro pre n k _h3 _h4 _h5 _h6 _h7
    obtain _ | n := n
    · simp only [List.length_nil, List.length_cons] at *; omega
    rw [iter_succ, List.append_nil]
    refine (h2 _ _ _).trans ?_
    simp [sumL, mkL]
  | cons x suf ih =>
    intro pre n k hp h0 hk hb hn
    obtain _ | n := n
    · simp only [List.length_nil, List.length_cons] at hn; omega
    simp only [sumL, Int.natCast_add] at hk
    rw [iter_succ, h1 _ _ _ _ _ (hp x (.head _)) h0 (by omega) hb]
    have := ih (pre ++ [m x k]) n (k + c x) (fun y hy => hp y (.tail _ hy)) (by omega) (by omega) (by simpa using hb) (by simp at hn; omega)
    simp only [List.append_assoc, List.singleton_append, List.length_append, List.length_cons, List.length_nil, Nat.zero_add, Int.natCast_add, Int.natCast_one] at this
    rw [this]
    simp only [sumL, mkL, Int.natCast_add, Int.add_assoc]

theorem held_loop {step : ((List α × Int × Int × Int × Unit) × Unit → Option (Bool × ((Int × Int × Unit) × Unit))) → (List α × Int × Int × Int × Unit) × Unit → Option (Bool × ((Int × Int × Unit) × Unit))} {m : α → Int → α} {c : α → Nat} {p : α → Prop}
    (h1 : ∀ rec' pre x suf (k t : Int), p x → 0 ≤ k → k + c x < 4611686018427387904 → (pre ++ m x k :: suf).length < 4611686018427387904 → step rec' ((pre ++ m x k :: suf, (k, (t, ((pre.length : Int), ())))), ()) = rec' ((pre ++ m x k :: suf, (k + c x, (t, ((pre.length : Int) + 1, ())))), ()))
    (h2 : ∀ rec' a k t, step rec' ((a, (k, (t, ((a.length : Int), ())))), ()) = some (false, ((k, (t, ())), ()))) :
    ∀ (suf pre : List α) (n : Nat) (k t : Int), (∀ x ∈ suf, p x) → 0 ≤ k → k + sumL c suf < 4611686018427387904 → (pre ++ mkL m c suf k).length < 4611686018427387904 → suf.length < n →
      iter step n ((pre ++ mkL m c suf k, (k, (t, ((pre.length : Int), ())))), ()) = some (false, ((k + sumL c suf, (t, ())), ())) := by
  intro suf
  induction suf with
  | nil =>
    intro pre n k t _h4 _h5 _h6 _h7 _h8
    obtain _ | n := n
    · simp only [List.length_nil, List.length_cons] at *; omega
    simp only [mkL, List.append_nil]
    rw [iter_succ]
    refine (h2 _ _ _ _).trans ?_
    simp [sumL]
  | cons x suf ih =>
    intro pre n k t hp h0 hk hb hn
    obtain _ | n := n
    · simp only [List.length_nil, List.length_cons] at hn; omega
    simp only [sumL, Int.natCast_add] at hk
    simp only [mkL] at hb ⊢
    rw [iter_succ, h1 _ _ _ _ _ _ (hp x (.head _)) h0 (by omega) hb]
    have := ih (pre ++ [m x k]) n (k + c x) t (fun y hy => hp y (.tail _ hy)) (by omega) (by omega) (by simpa using hb) (by simp at hn; omega)
    simp only [List.append_assoc, List.singleton_append, List.length_append, List.length_cons, List.length_nil, Nat.zero_add, Int.natCast_add, Int.natCast_one] at this
    rw [this]
    simp only [sumL, Int.natCast_add, Int.add_assoc]
end laws

theorem mkL_length {α : Type} {m : α → Int → α} {c : α → Nat} : ∀ (l : List α) (k : Int), (mkL m c l k).length = l.length
  | [], _ => rfl
  | x :: r, k => by simp only [mkL, List.length_cons, mkL_length r]
end Go.Fw
/- Floating point numbers: the order turned round; how great a result can be; what can be narrowed. No condition. -/
namespace Go.Fw
open Ieee

theorem cmp_swap (a b : Int) : compare a b = (compare b a).swap := by
  simp only [compare, compareOfLessAndEq]
  rcases Int.lt_trichotomy a b with h | h | h
  · rw [if_pos h, if_neg (by omega), if_neg (by omega)]; rfl
  · subst h; simp
  · rw [if_neg (by omega), if_neg (by omega), if_pos h]; rfl

theorem dorder_swap (d e : Datum) : d.order e = (e.order d).map Ordering.swap := by
  cases d with
  | nan s t => cases e <;> rfl
  | infinity s =>
    cases e with
    | nan _ _ => rfl
    | infinity t => cases s <;> cases t <;> rfl
    | number t n j => cases s <;> rfl
  | number s m i =>
    cases e with
    | nan _ _ => rfl
    | infinity t => cases t <;> rfl
    | number t n j =>
      simp only [Datum.order, Option.map_some, Option.some.injEq]
      rw [show min j i = min i j from by omega]
      exact cmp_swap _ _

theorem order_swap (k : FloatKind) (x y : Nat) : k.format.order x y = (k.format.order y x).map Ordering.swap := dorder_swap _ _

theorem fge_fle (k : FloatKind) (a b : Nat) : fge k a b = fle k b a := by
  unfold fge fle
  rw [order_swap k a b]
  cases k.format.order b a with
  | none => rfl
  | some o => cases o <;> rfl
theorem fgt_flt (k : FloatKind) (a b : Nat) : fgt k a b = flt k b a := by
  unfold fgt flt
  rw [order_swap k a b]
  cases k.format.order b a with
  | none => rfl
  | some o => cases o <;> rfl
theorem feq_comm (k : FloatKind) (a b : Nat) : feq k a b = feq k b a := by
  unfold feq
  rw [order_swap k a b]
  cases k.format.order b a with
  | none => rfl
  | some o => cases o <;> rfl

/-! ### how great a number can be -/
/-- A number of at most P binary places before the point, or a not-a-number. -/
def dB (P : Int) : Datum → Prop
  | .number _ m e => m = 0 ∨ e + m.log2 ≤ P
  | .infinity _ => False
  | .nan _ _ => True

theorem dB_mono {P Q : Int} (h : P ≤ Q) {d : Datum} (hd : dB P d) : dB Q d := by
  cases d with
  | number s m e => exact hd.elim (fun h1 => .inl h1) fun h1 => .inr (by omega)
  | infinity s => exact hd
  | nan s t => trivial

theorem cut_le {fb m drop : Nat} (s : Bool) (hd : m.log2 ≤ fb + drop) : Toward.even.cut s m drop ≤ 2 * 2 ^ fb := by
  unfold Toward.cut
  have hm : m < 2 ^ (m.log2 + 1) := Nat.lt_log2_self
  have h1 : m / 1 <<< min drop (m.log2 + 2) ≤ 2 * 2 ^ fb - 1 := by
    rw [Nat.one_shiftLeft]
    have hpos := Nat.two_pow_pos fb
    have : m / 2 ^ min drop (m.log2 + 2) < 2 * 2 ^ fb := by
      refine Nat.div_lt_of_lt_mul ?_
      rw [show 2 * 2 ^ fb = 2 ^ (fb + 1) by rw [Nat.pow_succ]; omega, ← Nat.pow_add]
      exact Nat.lt_of_lt_of_le hm (Nat.pow_le_pow_right (by omega) (by omega))
    omega
  have h2 : ∀ b : Bool, b.toNat ≤ 1 := fun b => by cases b <;> simp
  have h3 := Nat.two_pow_pos fb
  dsimp only
  have := h2 (decide (1 <<< min drop (m.log2 + 2) < 2 * (m % 1 <<< min drop (m.log2 + 2))) || (1 <<< min drop (m.log2 + 2) == 2 * (m % 1 <<< min drop (m.log2 + 2)) && m / 1 <<< min drop (m.log2 + 2) % 2 == 1))
  omega

theorem near_rung (f : Format) (s : Bool) {m : Nat} {e P : Int} {q : Nat} (hm : m ≠ 0) (hP : e + m.log2 ≤ P) (hq : max (P - f.fractionBits) f.leastPlace - f.leastPlace ≤ q) :
    ∃ r, f.nearest s m e = f.word s (min r f.infRung) ∧ r ≤ q * f.binade + 2 * f.binade := by
  unfold Format.nearest
  rw [if_neg hm]
  refine ⟨_, rfl, ?_⟩
  generalize hl : max (e + (m.log2 : Int) - f.fractionBits) f.leastPlace = last
  have h1 : (last - f.leastPlace).toNat ≤ q := by omega
  refine Nat.add_le_add (Nat.mul_le_mul_right _ h1) ?_
  show _ ≤ 2 * 2 ^ f.fractionBits
  by_cases hd : last ≤ e
  · rw [show (last - e).toNat = 0 by omega, cut_zero, Nat.shiftLeft_eq]
    have h7 : m < 2 ^ (m.log2 + 1) := Nat.lt_log2_self
    have h8 : m * 2 ^ (e - last).toNat < 2 ^ (m.log2 + 1) * 2 ^ (e - last).toNat := Nat.mul_lt_mul_of_pos_right h7 (Nat.two_pow_pos _)
    rw [← Nat.pow_add] at h8
    have h9 : 2 ^ (m.log2 + 1 + (e - last).toNat) ≤ 2 ^ (f.fractionBits + 1) := Nat.pow_le_pow_right (by omega) (by omega)
    rw [Nat.pow_succ 2 f.fractionBits] at h9
    omega
  · rw [show (e - last).toNat = 0 by omega]
    exact cut_le s (by simp only [Nat.shiftLeft_zero]; omega)

theorem read_rung (f : Format) (b : Nat) {q : Nat} (h : b % f.signWeight ≤ q * f.binade + 2 * f.binade) (hi : b % f.signWeight < f.infRung) : dB (max (f.leastPlace + f.fractionBits) (f.leastPlace + q + 1 + f.fractionBits)) (f.read b) := by
  have hB : 0 < f.binade := Nat.two_pow_pos _
  have hBe : f.binade = 2 ^ f.fractionBits := rfl
  rcases read_cases f b with ⟨h1, h2⟩ | ⟨h1, h3, h2⟩ | ⟨h1, h2⟩ | ⟨h1, t, h2⟩
  · rw [h2]
    by_cases hm : b % f.signWeight = 0
    · exact .inl hm
    · refine .inr ?_
      have : (b % f.signWeight).log2 < f.fractionBits := (Nat.log2_lt hm).2 (by rw [← hBe]; exact h1)
      omega
  · rw [h2]
    refine .inr ?_
    have hm := Nat.mod_lt (b % f.signWeight) hB
    have h4 : (f.binade + b % f.signWeight % f.binade).log2 < f.fractionBits + 1 := (Nat.log2_lt (by omega)).2 (by rw [Nat.pow_succ, ← hBe]; omega)
    have h5 : b % f.signWeight / f.binade ≤ q + 2 := by
      refine Nat.le_of_lt_succ (Nat.div_lt_of_lt_mul ?_)
      rw [show f.binade * (q + 2).succ = q * f.binade + 3 * f.binade by rw [Nat.mul_comm, Nat.succ_mul, Nat.add_mul]; omega]
      omega
    omega
  · omega
  · omega

theorem word_mod' (f : Format) (s : Bool) {r : Nat} (h : r < f.signWeight) : f.word s r % f.signWeight = r := word_mod f s h

/-- What is written of a number that is not too great is as great, but for one place. -/
theorem write_dB {P : Int} (h1 : -1000 ≤ P) (h2 : P ≤ 1022) {d : Datum} (hd : dB P d) (hn : d.isNaN = false) : dB (P + 1) (FloatKind.f64.format.read (FloatKind.f64.format.write d)) := by
  have hI : FloatKind.f64.format.infRung = 2047 * FloatKind.f64.format.binade := rfl
  have hB : 0 < FloatKind.f64.format.binade := Nat.two_pow_pos _
  have e1 : FloatKind.f64.format.fractionBits = 52 := rfl
  have e2 : FloatKind.f64.format.leastPlace = -1074 := rfl
  have hs := FloatKind.f64.format.infRung_lt
  generalize FloatKind.f64.format = fm at *
  cases d with
  | infinity s => exact hd.elim
  | nan s t => cases hn
  | number s m e =>
    show dB (P + 1) (fm.read (fm.nearest s m e))
    by_cases hm : m = 0
    · subst hm
      unfold Format.nearest
      rw [if_pos rfl]
      have := read_rung fm (fm.word s 0) (q := 0) (by rw [word_mod fm s (by omega)]; omega) (by rw [word_mod fm s (by omega)]; omega)
      rw [e1, e2] at this
      exact dB_mono (by omega) this
    · have hP : e + m.log2 ≤ P := hd.elim (fun h => absurd h hm) fun h => h
      obtain ⟨r, hr, hle⟩ := near_rung fm s hm hP (q := (P + 1022).toNat) (by rw [e1, e2]; omega)
      have hq : (P + 1022).toNat ≤ 2044 := by omega
      have hq2 : (P + 1022).toNat * fm.binade ≤ 2044 * fm.binade := Nat.mul_le_mul_right _ hq
      have hlt : r < fm.infRung := by omega
      have hmin : min r fm.infRung = r := by omega
      rw [hr, hmin]
      have := read_rung fm (fm.word s r) (q := (P + 1022).toNat) (by rw [word_mod fm s (by omega)]; exact hle) (by rw [word_mod fm s (by omega)]; exact hlt)
      rw [e1, e2] at this
      exact dB_mono (by omega) this

theorem read_winf (k : FloatKind) (s : Bool) : ∃ t, k.format.read (k.format.word s k.format.infRung) = .infinity t := ⟨_, read_inf (word_mod _ s k.format.infRung_lt)⟩

/-- What can be narrowed. -/
theorem narrow_ok {x : Nat} (h : dB 126 (FloatKind.f64.format.read x)) : ∃ r, fconv .f64 .f32 x = some r := by
  unfold fconv
  cases hx : isNan .f64 x
  · unfold floatToFloatBits
    rw [cond_f, if_neg (by decide)]
    change dB 126 (FloatKind.f64.decode x) at h
    cases hr : FloatKind.f64.decode x with
    | infinity s => exact ⟨_, rfl⟩
    | nan s t =>
      have : isNan .f64 x = true := by unfold isNan; rw [hr]; rfl
      rw [hx] at this; cases this
    | number s m e =>
      rw [hr] at h
      have hI : FloatKind.f32.format.infRung = 255 * FloatKind.f32.format.binade := rfl
      have hB : 0 < FloatKind.f32.format.binade := Nat.two_pow_pos _
      have e1 : FloatKind.f32.format.fractionBits = 23 := rfl
      have e2 : FloatKind.f32.format.leastPlace = -149 := rfl
      have hs := FloatKind.f32.format.infRung_lt
      have key : (FloatKind.f32.format.read (FloatKind.f32.format.nearest s m e)).isInfinity = false := by
        generalize FloatKind.f32.format = fm at *
        have fin : ∀ g, g < fm.infRung → (fm.read (fm.word s g)).isInfinity = false := fun g hg => by
          obtain ⟨m', e', hr', _⟩ := read_fin fm (fm.word s g) (by rw [word_mod fm s (by omega)]; exact hg)
          rw [hr']; rfl
        by_cases hm : m = 0
        · unfold Format.nearest
          rw [if_pos hm]
          exact fin 0 (by omega)
        · have hP : e + m.log2 ≤ 126 := h.elim (fun h => absurd h hm) fun h => h
          obtain ⟨r, hr, hle⟩ := near_rung fm s hm hP (q := 252) (by rw [e1, e2]; omega)
          have hlt : r < fm.infRung := by omega
          rw [hr, show min r fm.infRung = r by omega]
          exact fin r hlt
      have key' : (FloatKind.f32.decode (FloatKind.f32.encode (.number s m e))).isInfinity = false := key
      refine ⟨FloatKind.f32.encode (.number s m e), ?_⟩
      simp only [key', Bool.false_eq_true, if_false]
  · exact ⟨_, rfl⟩

theorem narrow_inf {x : Nat} {s : Bool} (h : FloatKind.f64.format.read x = .infinity s) : ∃ r, fconv .f64 .f32 x = some r := by
  unfold fconv
  cases hx : isNan .f64 x
  · unfold floatToFloatBits
    rw [cond_f, if_neg (by decide), show FloatKind.f64.decode x = .infinity s from h]
    exact ⟨_, rfl⟩
  · exact ⟨_, rfl⟩

/-- A number of single precision that was widened. -/
theorem wide_dB {x : Nat} (hx : x < 2 ^ 32) : dB 129 (FloatKind.f64.format.read (fwide x)) ∨ ∃ s, FloatKind.f64.format.read (fwide x) = .infinity s := by
  have hw := fconv_wide hx
  generalize fwide x = y at *
  unfold fconv at hw
  cases hn : isNan .f32 x
  · rw [hn, cond_f] at hw
    unfold floatToFloatBits at hw
    rw [if_neg (by decide)] at hw
    have hdx : FloatKind.f32.decode x = FloatKind.f32.format.read x := rfl
    have hB : FloatKind.f32.format.binade = 8388608 := rfl
    have hL : FloatKind.f32.format.leastPlace = -149 := rfl
    have hI : FloatKind.f32.format.infRung = 2139095040 := rfl
    have hsw : FloatKind.f32.format.signWeight = 2 ^ 31 := rfl
    have num : ∀ s m e, FloatKind.f32.format.read x = .number s m e → m < 2 ^ 24 → e ≤ 104 → dB 129 (FloatKind.f64.format.read y) := fun s m e hr hm he => by
      rw [hdx, hr] at hw
      dsimp only at hw
      split at hw
      · cases hw
      · cases hw
        have hb : dB 128 (.number s m e) := by
          by_cases h0 : m = 0
          · exact .inl h0
          · have : m.log2 < 24 := (Nat.log2_lt h0).2 hm
            exact .inr (by omega)
        exact write_dB (by omega) (by omega) hb rfl
    rcases read_cases FloatKind.f32.format x with ⟨h1, h2⟩ | ⟨h1, h3, h2⟩ | ⟨h1, h2⟩ | ⟨h1, t, h2⟩
    · rw [hsw, hB] at h1
      rw [hsw, hL] at h2
      exact .inl (num _ _ _ h2 (by omega) (by omega))
    · rw [hsw, hB] at h1
      rw [hsw, hI] at h3
      rw [hsw, hL, hB] at h2
      have hm := Nat.mod_lt (x % 2 ^ 31) (show 0 < 8388608 by omega)
      have hd : x % 2 ^ 31 / 8388608 < 255 := Nat.div_lt_of_lt_mul (by omega)
      exact .inl (num _ _ _ h2 (by omega) (by omega))
    · rw [hdx, h2] at hw
      dsimp only at hw
      cases hw
      exact .inr (read_winf .f64 _)
    · exfalso
      have : isNan .f32 x = true := by
        show (FloatKind.f32.format.read x).isNaN = true
        rw [h2]; rfl
      rw [hn] at this; cases this
  · rw [hn, cond_t] at hw
    cases hw
    refine .inl ?_
    have : FloatKind.f64.format.read (qnan .f64) = .nan false 2251799813685249 := by decide +kernel
    rw [this]; trivial

theorem rootFrom_sq (n : Nat) : ∀ (todo root : Nat), root * root ≤ n → Datum.rootFrom n todo root * Datum.rootFrom n todo root ≤ n
  | 0, root, h => h
  | todo + 1, root, h => by
    unfold Datum.rootFrom
    dsimp only
    split
    · rename_i h1; exact rootFrom_sq n todo _ h1
    · exact rootFrom_sq n todo _ h

theorem log2_add_one_le {n : Nat} : (2 * n + 1).log2 ≤ n.log2 + 1 := by
  by_cases h : n = 0
  · subst h; decide
  · have h1 : n < 2 ^ (n.log2 + 1) := Nat.lt_log2_self
    have : (2 * n + 1).log2 < n.log2 + 2 := (Nat.log2_lt (by omega)).2 (by rw [Nat.pow_succ]; omega)
    omega

theorem root_dB {P : Int} {d r : Datum} (hd : dB P d) (h : d.root 54 = some r) (_ : -500 ≤ P) : dB (P / 2 + 2) r ∧ r.isNaN = false ∨ r.isInfinity = true := by
  cases d with
  | nan s t => cases h
  | infinity s => exact hd.elim
  | number s m i =>
    simp only [Datum.root] at h
    split at h
    · cases h; rename_i h0; exact .inl ⟨.inl h0, rfl⟩
    · split at h
      · cases h
      · rename_i h0 _
        rcases hd with hd | hd
        · exact absurd hd h0
        cases h
        refine .inl ⟨.inr ?_, rfl⟩
        generalize hmore : 2 * 54 - m.log2 + ((i - (2 * 54 - m.log2 : Nat)) % 2).toNat = more
        have hpar : (i - more) % 2 = 0 := by omega
        have hbig : 2 * 54 ≤ m.log2 + more := by omega
        generalize hn : m <<< more = n
        have hw := rootFrom_sq n (n.log2 / 2 + 1) 0 (by simp)
        generalize Datum.rootFrom n (n.log2 / 2 + 1) 0 = w at *
        have hn2 : n < 2 ^ (m.log2 + more + 1) := by
          rw [← hn, Nat.shiftLeft_eq]
          have h7 : m < 2 ^ (m.log2 + 1) := Nat.lt_log2_self
          have h8 : m * 2 ^ more < 2 ^ (m.log2 + 1) * 2 ^ more := Nat.mul_lt_mul_of_pos_right h7 (Nat.two_pow_pos _)
          rw [← Nat.pow_add] at h8
          rwa [show m.log2 + more + 1 = m.log2 + 1 + more by omega]
        have hlog : 2 * w.log2 ≤ m.log2 + more := by
          by_cases hw0 : w = 0
          · subst hw0; simp
          · have h9 : 2 ^ w.log2 ≤ w := Nat.log2_self_le hw0
            have h10 : 2 ^ w.log2 * 2 ^ w.log2 ≤ w * w := Nat.mul_le_mul h9 h9
            rw [← Nat.pow_add] at h10
            have h11 : 2 ^ (w.log2 + w.log2) < 2 ^ (m.log2 + more + 1) := by omega
            have := (Nat.pow_lt_pow_iff_right (a := 2) (by omega)).1 h11
            omega
        have hl2 : (2 * w + (w * w != n).toNat).log2 ≤ w.log2 + 1 := by
          refine Nat.le_trans ?_ log2_add_one_le
          cases hb : (w * w != n)
          · simp only [Bool.toNat_false, Nat.add_zero]
            by_cases hw0 : w = 0
            · subst hw0; decide
            · rw [Nat.le_log2 (by omega)]
              exact Nat.le_trans (Nat.log2_self_le (by omega)) (by omega)
          · simp only [Bool.toNat_true]; exact Nat.le_refl _
        omega

/-- The root of a number of single precision can be narrowed. -/
theorem root_ok {x : Nat} (hx : x < 2 ^ 32) : ∃ r, fconv .f64 .f32 (t_mathsqrt (fwide x)) = some r := by
  unfold t_mathsqrt Format.sqrt
  have hf : FloatKind.f64.format.fractionBits + 2 = 54 := rfl
  rw [hf]
  rcases wide_dB hx with h | ⟨s, h⟩
  · cases hr : (FloatKind.f64.format.read (fwide x)).root 54 with
    | none => exact ⟨_, rfl⟩
    | some d =>
      rw [Option.map_some]
      dsimp only
      rcases root_dB h hr (by omega) with ⟨h1, h2⟩ | h1
      · exact narrow_ok (dB_mono (by omega) (write_dB (by omega) (by omega) h1 h2))
      · cases d with
        | infinity s => obtain ⟨t, ht⟩ := read_winf .f64 s; exact narrow_inf ht
        | nan _ _ => cases h1
        | number _ _ _ => cases h1
  · rw [h]
    unfold Datum.root
    cases s
    · obtain ⟨t, ht⟩ := read_winf .f64 false; exact narrow_inf ht
    · exact ⟨_, rfl⟩

/-- Canonical words. -/
def okF (k : FloatKind) (x : Nat) : Prop := x < 2 ^ k.format.width ∧ canon k x = x
theorem okF.lt {k : FloatKind} {x : Nat} (h : okF k x) : x < 2 ^ k.format.width := h.1
theorem okF.lt32 {x : Nat} (h : okF .f32 x) : x < 2 ^ 32 := h.1
theorem okF.canon {k : FloatKind} {x : Nat} (h : okF k x) : Fw.canon k x = x := h.2
theorem okF.nan {k : FloatKind} {x : Nat} (h : okF k x) (hn : isNan k x = true) : x = qnan k := by rw [← h.canon, canon_nan hn]
theorem okF.of_num {k : FloatKind} {x : Nat} (h : x < 2 ^ k.format.width) (hn : isNan k x = false) : okF k x := ⟨h, canon_num hn⟩
theorem okF_qnan (k : FloatKind) : okF k (qnan k) := ⟨qnan_lt k, by rw [canon_nan (isNan_qnan k)]⟩

theorem map_write_lt (k : FloatKind) {o : Option Datum} {r : Nat} (h : o.map k.format.write = some r) : r < 2 ^ k.format.width := by
  cases o with
  | none => cases h
  | some d => cases h; exact k.format.write_lt d
theorem floatBits_lt {op : BinOp} {k : FloatKind} {x y r : Nat} (h : floatBits op k x y = some r) : r < 2 ^ k.format.width := by
  unfold floatBits at h
  split at h
  · exact map_write_lt k h
  · exact map_write_lt k h
  · exact map_write_lt k h
  · exact map_write_lt k h
  · cases h
theorem fop_okF (op : BinOp) (k : FloatKind) (x y : Nat) : okF k (fop op k x y) := by
  unfold fop
  cases h : floatBits op k x y with
  | none => exact okF_qnan k
  | some r => exact .of_num (floatBits_lt h) (floatBits_not_nan h)
theorem fadd_okF (k : FloatKind) (x y : Nat) : okF k (fadd k x y) := fop_okF _ _ _ _
theorem fsub_okF (k : FloatKind) (x y : Nat) : okF k (fsub k x y) := fop_okF _ _ _ _
theorem fmul_okF (k : FloatKind) (x y : Nat) : okF k (fmul k x y) := fop_okF _ _ _ _
theorem fdiv_okF (k : FloatKind) (x y : Nat) : okF k (fdiv k x y) := fop_okF _ _ _ _
theorem fneg_okF (k : FloatKind) {x : Nat} (h : okF k x) : okF k (fneg k x) := by
  unfold fneg
  refine ⟨?_, canon_canon _ _⟩
  unfold Fw.canon
  cases isNan k (Op.negFloat k x)
  · exact neg_lt k h.1
  · exact qnan_lt k
theorem fofInt_okF (k : FloatKind) (n : Int) : okF k (fofInt k n) := .of_num (encode_lt k (.number (n < 0) n.natAbs 0)) (write_num_not_nan k _ _ _)
theorem fconv_okF {s d : FloatKind} {x r : Nat} (hx : x < 2 ^ s.format.width) (h : fconv s d x = some r) : okF d r := by
  unfold fconv at h
  cases hn : isNan s x
  · rw [hn, cond_f] at h
    exact ⟨(floatToFloatBits_rel hx hn h).1, (floatToFloatBits_rel hx hn h).2⟩
  · rw [hn, cond_t] at h
    cases h; exact okF_qnan d
theorem fwide_okF {x : Nat} (hx : x < 2 ^ 32) : okF .f64 (fwide x) := fconv_okF (s := .f32) hx (fconv_wide hx)
theorem mathsqrt_okF (x : Nat) : okF .f64 (t_mathsqrt x) := by
  unfold t_mathsqrt Format.sqrt
  split
  · rename_i r h
    exact .of_num (map_write_lt .f64 h) (map_write_not_nan .f64 (fun d hd => root_not_nan hd) h)
  · exact okF_qnan .f64
/-- The root, narrowed: it is there. -/
theorem root_okF {x : Nat} (hx : x < 2 ^ 32) : ∃ r, fconv .f64 .f32 (t_mathsqrt (fwide x)) = some r ∧ okF .f32 r := by
  obtain ⟨r, hr⟩ := root_ok hx
  exact ⟨r, hr, fconv_okF (mathsqrt_okF _).1 hr⟩

theorem order_num {k : FloatKind} {x y : Nat} (hx : isNan k x = false) (hy : isNan k y = false) : ∃ o, k.format.order x y = some o := by
  unfold isNan at hx hy
  change (k.format.read x).isNaN = false at hx
  change (k.format.read y).isNaN = false at hy
  unfold Format.order
  cases h1 : k.format.read x with
  | nan s t => rw [h1] at hx; cases hx
  | infinity s =>
    cases h2 : k.format.read y with
    | nan s t => rw [h2] at hy; cases hy
    | infinity t => exact ⟨_, rfl⟩
    | number t n j => exact ⟨_, rfl⟩
  | number s m i =>
    cases h2 : k.format.read y with
    | nan s t => rw [h2] at hy; cases hy
    | infinity t => exact ⟨_, rfl⟩
    | number t n j => exact ⟨_, rfl⟩
theorem fle_total {k : FloatKind} {x y : Nat} (hx : isNan k x = false) (hy : isNan k y = false) : fle k x y = true ∨ fle k y x = true := by
  rw [← fge_fle k x y]
  obtain ⟨o, ho⟩ := order_num hx hy
  unfold fle fge
  rw [ho]
  cases o <;> simp
theorem fop_nan {op : BinOp} {k : FloatKind} {x y : Nat} (h : isNan k x = true) : fop op k x y = qnan k := by
  unfold fop; rw [floatBits_nan_left h]; rfl
theorem feq_nan {k : FloatKind} {x y : Nat} (h : isNan k x = true) : feq k x y = false := by
  unfold feq; rw [order_nan_left h]; rfl
/-- x - x is 0: so x is a number. -/
theorem not_nan_of_finite {k : FloatKind} {x z : Nat} (h : feq k (fsub k x x) z = true) : isNan k x = false := by
  cases hn : isNan k x
  · rfl
  · rw [show fsub k x x = qnan k from fop_nan hn, feq_nan (isNan_qnan k)] at h; cases h
theorem not_nan_of_feq {k : FloatKind} {x : Nat} (h : feq k x x = true) : isNan k x = false := by
  rw [feq_self] at h; cases hn : isNan k x
  · rfl
  · rw [hn] at h; cases h
end Go.Fw
/- Floating point numbers: what is widened and narrowed again is the same. No condition. -/
namespace Go.Fw
open Ieee

theorem fwide_num {x m : Nat} {s : Bool} {e : Int} (hx : x < 2 ^ 32) (hn : isNan .f32 x = false) (hr : FloatKind.f32.format.read x = .number s m e) : fwide x = FloatKind.f64.format.nearest s m e := by
  have hw := fconv_wide hx
  unfold fconv floatToFloatBits at hw
  rw [hn, cond_f, if_neg (by decide), show FloatKind.f32.decode x = .number s m e from hr] at hw
  dsimp only at hw
  split at hw
  · cases hw
  · exact (Option.some.inj hw).symm

theorem fwide_inf {x : Nat} {s : Bool} (hx : x < 2 ^ 32) (hn : isNan .f32 x = false) (hr : FloatKind.f32.format.read x = .infinity s) : fwide x = FloatKind.f64.format.word s FloatKind.f64.format.infRung := by
  have hw := fconv_wide hx
  unfold fconv floatToFloatBits at hw
  rw [hn, cond_f, if_neg (by decide), show FloatKind.f32.decode x = .infinity s from hr] at hw
  exact (Option.some.inj hw).symm

theorem fwide_nan {x : Nat} (hx : x < 2 ^ 32) (hn : isNan .f32 x = true) : fwide x = qnan .f64 := by
  have hw := fconv_wide hx
  unfold fconv at hw
  rw [hn, cond_t] at hw
  exact (Option.some.inj hw).symm

/-- A number that is not 0 is read out of its widened word, its digits moved to the top. -/
theorem wide_read {x m : Nat} {s : Bool} {e : Int} (hx : x < 2 ^ 32) (hn : isNan .f32 x = false) (hr : FloatKind.f32.format.read x = .number s m e) (hm0 : m ≠ 0) (hm : m < 2 ^ 24) (he1 : -149 ≤ e) (he2 : e ≤ 104) :
    FloatKind.f64.format.read (fwide x) = .number s (m * 2 ^ (52 - m.log2)) (e + m.log2 - 52) := by
  rw [fwide_num hx hn hr]
  obtain ⟨g, h1, h2, h3, h4, h5⟩ := near64_read s hm0 hm he1 he2
  rw [h1]
  have hgs := Nat.lt_trans h3 FloatKind.f64.format.infRung_lt
  obtain ⟨p1, p2⟩ := word_parts .f64 s hgs
  rcases read_cases FloatKind.f64.format (FloatKind.f64.format.word s g) with ⟨q1, q2⟩ | ⟨q1, q3, q2⟩ | ⟨q1, q2⟩ | ⟨q1, t, q2⟩
  · rw [p2] at q1; omega
  · rw [q2, p2, p1, h4]
    have e2 : FloatKind.f64.format.leastPlace = -1074 := rfl
    rw [e2, h5]
    have : (s.toNat % 2 == 1) = s := by cases s <;> rfl
    rw [this]
    congr 1
    omega
  · rw [p2] at q1; omega
  · rw [p2] at q1; omega

theorem cut_exact (s : Bool) (m d : Nat) (hm : m ≠ 0) : Toward.even.cut s (m * 2 ^ d) d = m := by
  unfold Toward.cut
  have h1 : d ≤ (m * 2 ^ d).log2 := by
    rw [Nat.le_log2 (Nat.mul_ne_zero hm (Nat.pos_iff_ne_zero.1 (Nat.two_pow_pos d)))]
    exact Nat.le_mul_of_pos_left _ (by omega)
  have h2 : min d ((m * 2 ^ d).log2 + 2) = d := by omega
  have hpos := Nat.two_pow_pos d
  simp only [h2, Nat.one_shiftLeft, Nat.mul_mod_left, Nat.mul_div_cancel _ hpos]
  have h3 : decide (2 ^ d < 2 * 0) = false := by simp
  have h4 : (2 ^ d == 2 * 0) = false := by
    rw [beq_eq_false_iff_ne]; omega
  rw [h3, h4]
  rfl

theorem narrow_num {y : Nat} {s : Bool} {M : Nat} {E : Int} (hr : FloatKind.f64.format.read y = .number s M E) {r : Nat} (hw : FloatKind.f32.format.nearest s M E = r) (hi : r % FloatKind.f32.format.signWeight < FloatKind.f32.format.infRung) : fconv .f64 .f32 y = some r := by
  have hn : isNan .f64 y = false := by
    show (FloatKind.f64.format.read y).isNaN = false
    rw [hr]; rfl
  unfold fconv floatToFloatBits
  rw [hn, cond_f, if_neg (by decide), show FloatKind.f64.decode y = .number s M E from hr]
  have key : (FloatKind.f32.decode (FloatKind.f32.encode (.number s M E))).isInfinity = false := by
    show (FloatKind.f32.format.read (FloatKind.f32.format.nearest s M E)).isInfinity = false
    rw [hw]
    obtain ⟨m', e', hr', _⟩ := read_fin FloatKind.f32.format r hi
    rw [hr']; rfl
  simp only [key, Bool.false_eq_true, if_false]
  exact congrArg some hw

theorem word_sign (x : Nat) (hx : x < 2 ^ 32) : FloatKind.f32.format.word (x / 2 ^ 31 % 2 == 1) (x % 2 ^ 31) = x := by
  unfold Format.word
  have hsw : FloatKind.f32.format.signWeight = 2 ^ 31 := rfl
  rw [hsw]
  by_cases h : x / 2 ^ 31 % 2 = 1
  · rw [if_pos (by rw [h]; rfl)]; omega
  · rw [if_neg (by simpa using h)]; omega

/-- **What is widened and narrowed again is the same.** -/
theorem narrow_wide {x : Nat} (hx : okF .f32 x) : fconv .f64 .f32 (fwide x) = some x := by
  have lx := hx.lt32
  have hB : FloatKind.f32.format.binade = 8388608 := rfl
  have hL : FloatKind.f32.format.leastPlace = -149 := rfl
  have hI : FloatKind.f32.format.infRung = 2139095040 := rfl
  have hsw : FloatKind.f32.format.signWeight = 2 ^ 31 := rfl
  have hfb : FloatKind.f32.format.fractionBits = 23 := rfl
  cases hn : isNan .f32 x
  · have fin : ∀ m e, m < 2 ^ 24 → -149 ≤ e → e ≤ 104 → x % 2 ^ 31 < 2139095040 → FloatKind.f32.format.read x = .number (x / 2 ^ 31 % 2 == 1) m e → ((e + 149).toNat * 8388608 + m = x % 2 ^ 31 ∨ m = 0 ∧ x % 2 ^ 31 = 0) → (m ≠ 0 → max (e + m.log2 - 23) (-149) = e) → fconv .f64 .f32 (fwide x) = some x := by
      intro m e hm he1 he2 hi hr hrung hlast
      by_cases h0 : m = 0
      · subst h0
        have hz : x % 2 ^ 31 = 0 := by
          rcases hrung with h | h
          · have hd : (x % 2 ^ 31) / 8388608 = (e + 149).toNat := by omega
            rcases read_cases FloatKind.f32.format x with ⟨q1, q2⟩ | ⟨q1, q3, q2⟩ | ⟨q1, q2⟩ | ⟨q1, t, q2⟩
            · rw [hr, hsw] at q2
              simp only [Datum.number.injEq] at q2
              omega
            · rw [hr, hsw, hB] at q2
              simp only [Datum.number.injEq] at q2
              omega
            · rw [hr] at q2; cases q2
            · rw [hr] at q2; cases q2
          · exact h.2
        have hz2 : x = 0 ∨ x = 2 ^ 31 := by omega
        rcases hz2 with e | e <;> subst e <;> decide +kernel
      · have hw := wide_read lx hn hr h0 hm he1 he2
        have hl24 : m.log2 < 24 := (Nat.log2_lt h0).2 hm
        have hl := hlast h0
        have hlog : (m * 2 ^ (52 - m.log2)).log2 = 52 := by
          have h9 : 2 ^ m.log2 ≤ m := Nat.log2_self_le h0
          have h7 : m < 2 ^ (m.log2 + 1) := Nat.lt_log2_self
          have hpos := Nat.two_pow_pos (52 - m.log2)
          have h10 : 2 ^ m.log2 * 2 ^ (52 - m.log2) ≤ m * 2 ^ (52 - m.log2) := Nat.mul_le_mul_right _ h9
          have h8 : m * 2 ^ (52 - m.log2) < 2 ^ (m.log2 + 1) * 2 ^ (52 - m.log2) := Nat.mul_lt_mul_of_pos_right h7 hpos
          rw [← Nat.pow_add, show m.log2 + (52 - m.log2) = 52 by omega] at h10
          rw [← Nat.pow_add, show m.log2 + 1 + (52 - m.log2) = 53 by omega] at h8
          have hne : m * 2 ^ (52 - m.log2) ≠ 0 := by have := Nat.two_pow_pos 52; omega
          have a1 := (Nat.le_log2 hne).2 h10
          have a2 := (Nat.log2_lt hne).2 h8
          omega
        have hne : m * 2 ^ (52 - m.log2) ≠ 0 := by intro e; rw [e] at hlog; cases hlog
        refine narrow_num hw ?_ (by rw [hsw, hI]; exact hi)
        unfold Format.nearest
        rw [if_neg hne, hlog, hfb, hL]
        have e1 : max (e + (m.log2 : Int) - 52 + ((52 : Nat) : Int) - ((23 : Nat) : Int)) (-149) = e := by omega
        dsimp only
        rw [e1, show (e + (m.log2 : Int) - 52 - e).toNat = 0 by omega, show (e - (e + (m.log2 : Int) - 52)).toNat = 52 - m.log2 by omega, Nat.shiftLeft_zero, cut_exact _ _ _ h0, hB, hI]
        have e2 : (e - -149).toNat * 8388608 + m = x % 2 ^ 31 := by
          rcases hrung with h | h
          · rw [← h, show (e - -149) = e + 149 by omega]
          · exact absurd h.1 h0
        rw [e2, show min (x % 2 ^ 31) 2139095040 = x % 2 ^ 31 by omega]
        exact word_sign x lx
    rcases read_cases FloatKind.f32.format x with ⟨h1, h2⟩ | ⟨h1, h3, h2⟩ | ⟨h1, h2⟩ | ⟨h1, t, h2⟩
    · rw [hsw, hB] at h1
      rw [hsw, hL] at h2
      refine fin _ _ (by omega) (by omega) (by omega) (by omega) h2 (.inl (by omega)) fun h0 => ?_
      have : (x % 2 ^ 31).log2 < 23 := (Nat.log2_lt h0).2 (by omega)
      omega
    · rw [hsw, hB] at h1
      rw [hsw, hI] at h3
      rw [hsw, hL, hB] at h2
      have hm := Nat.mod_lt (x % 2 ^ 31) (show 0 < 8388608 by omega)
      have hd : x % 2 ^ 31 / 8388608 < 255 := Nat.div_lt_of_lt_mul (by omega)
      refine fin _ _ (by omega) (by omega) (by omega) h3 h2 (.inl (by omega)) fun h0 => ?_
      have : (8388608 + x % 2 ^ 31 % 8388608).log2 = 23 := by
        have a1 := (Nat.le_log2 h0 (k := 23)).2 (by omega)
        have a2 := (Nat.log2_lt h0 (k := 24)).2 (by omega)
        omega
      rw [this]
      omega
    · rw [hsw, hI] at h1
      rw [hsw] at h2
      rw [fwide_inf lx hn h2]
      have hinf : x = 2139095040 ∨ x = 4286578688 := by omega
      rcases hinf with e | e <;> subst e <;> decide +kernel
    · exfalso
      have : isNan .f32 x = true := by
        show (FloatKind.f32.format.read x).isNaN = true
        rw [h2]; rfl
      rw [hn] at this; cases this
  · rw [fwide_nan lx hn, hx.nan hn]
    decide +kernel

theorem cut_even (s t : Bool) (n d : Nat) : Toward.even.cut s n d = Toward.even.cut t n d := rfl
theorem near_sign (f : Format) (m : Nat) (e : Int) : ∃ g, g ≤ f.infRung ∧ ∀ s, f.nearest s m e = f.word s g := by
  by_cases h : m = 0
  · exact ⟨0, Nat.zero_le _, fun s => by unfold Format.nearest; rw [if_pos h]⟩
  · refine ⟨min ((max (e + (m.log2 : Int) - f.fractionBits) f.leastPlace - f.leastPlace).toNat * f.binade + Toward.even.cut false (m <<< (e - max (e + (m.log2 : Int) - f.fractionBits) f.leastPlace).toNat) (max (e + (m.log2 : Int) - f.fractionBits) f.leastPlace - e).toNat) f.infRung, Nat.min_le_right _ _, fun s => ?_⟩
    unfold Format.nearest
    rw [if_neg h]
    rfl

/-- Single precision's magnitude. -/
def abs32 (x : Nat) : Nat := canon .f32 (x % 2 ^ 31)
theorem isNan_mod31 (z : Nat) : isNan .f32 (z % 2 ^ 31) = isNan .f32 z := isNan_mod .f32 _ _ (by
  show z % 2 ^ 31 % 2 ^ 31 = z % 2 ^ 31
  exact Nat.mod_mod _ _)
theorem abs32_okF {x : Nat} : okF .f32 (abs32 x) := by
  refine ⟨?_, canon_canon _ _⟩
  unfold abs32 Fw.canon
  cases isNan .f32 (x % 2 ^ 31)
  · show x % 2 ^ 31 < 2 ^ 32; omega
  · exact qnan_lt .f32
theorem abs_wide {x : Nat} (hx : okF .f32 x) : abs64 (fwide x) = fwide (abs32 x) := by
  have lx := hx.lt32
  unfold abs32
  cases hn : isNan .f32 x
  · rw [canon_num (by rw [isNan_mod31]; exact hn)]
    have hn' : isNan .f32 (x % 2 ^ 31) = false := by rw [isNan_mod31]; exact hn
    have lx' : x % 2 ^ 31 < 2 ^ 32 := by omega
    have hsw : FloatKind.f32.format.signWeight = 2 ^ 31 := rfl
    have hB := binade_leK .f32
    have habs : ∀ s g, g ≤ FloatKind.f64.format.infRung → abs64 (FloatKind.f64.format.word s g) = FloatKind.f64.format.word false g := fun s g hg => by
      unfold abs64
      have h1 : FloatKind.f64.format.word s g % 2 ^ 63 = g := word_mod FloatKind.f64.format s (Nat.lt_of_le_of_lt hg FloatKind.f64.format.infRung_lt)
      rw [h1]
      refine canon_num ?_
      exact read_not_nan FloatKind.f64.format g (by rw [Nat.mod_eq_of_lt (Nat.lt_of_le_of_lt hg FloatKind.f64.format.infRung_lt)]; exact hg)
    have hd0 : (x % 2 ^ 31) / 2 ^ 31 % 2 = 0 := by omega
    have hm0 : x % 2 ^ 31 % 2 ^ 31 = x % 2 ^ 31 := Nat.mod_mod _ _
    have num : ∀ m e, FloatKind.f32.format.read x = .number (x / 2 ^ 31 % 2 == 1) m e → FloatKind.f32.format.read (x % 2 ^ 31) = .number false m e → abs64 (fwide x) = fwide (x % 2 ^ 31) := fun m e h1 h2 => by
      rw [fwide_num lx hn h1, fwide_num lx' hn' h2]
      obtain ⟨g, hg, hs⟩ := near_sign FloatKind.f64.format m e
      rw [hs, hs]
      exact habs _ _ hg
    rcases read_cases FloatKind.f32.format x with ⟨h1, h2⟩ | ⟨h1, h3, h2⟩ | ⟨h1, h2⟩ | ⟨h1, t, h2⟩
    · rcases read_cases FloatKind.f32.format (x % 2 ^ 31) with ⟨g1, g2⟩ | ⟨g1, g3, g2⟩ | ⟨g1, g2⟩ | ⟨g1, t, g2⟩
      · rw [hsw, hm0, hd0] at g2
        exact num _ _ h2 g2
      all_goals rw [hsw] at h1; rw [hsw, hm0] at g1; omega
    · rcases read_cases FloatKind.f32.format (x % 2 ^ 31) with ⟨g1, g2⟩ | ⟨g1, g3, g2⟩ | ⟨g1, g2⟩ | ⟨g1, t, g2⟩
      · rw [hsw] at h1; rw [hsw, hm0] at g1; omega
      · rw [hsw, hm0, hd0] at g2
        exact num _ _ h2 g2
      all_goals rw [hsw] at h3; rw [hsw, hm0] at g1; omega
    · rcases read_cases FloatKind.f32.format (x % 2 ^ 31) with ⟨g1, g2⟩ | ⟨g1, g3, g2⟩ | ⟨g1, g2⟩ | ⟨g1, t, g2⟩
      · rw [hsw] at h1; rw [hsw, hm0] at g1; omega
      · rw [hsw] at h1; rw [hsw, hm0] at g3; omega
      · rw [fwide_inf lx hn h2, fwide_inf lx' hn' g2, hsw, hd0]
        exact habs _ _ (Nat.le_refl _)
      · rw [hsw] at h1; rw [hsw, hm0] at g1; omega
    · exfalso
      have : isNan .f32 x = true := by
        show (FloatKind.f32.format.read x).isNaN = true
        rw [h2]; rfl
      rw [hn] at this; cases this
  · rw [fwide_nan lx hn, hx.nan hn]
    decide +kernel
/-- The magnitude by way of double precision. -/
theorem abs_narrow {x : Nat} (hx : okF .f32 x) : fconv .f64 .f32 (abs64 (fwide x)) = some (abs32 x) := by
  rw [abs_wide hx]
  exact narrow_wide abs32_okF
end Go.Fw
/- Plain facts for printed texts: what an optional value comes to; loops with invariants; conditions as propositions. No condition. -/
namespace Go.Fw

/-- It comes to a value with the property. -/
def Ret {α : Type} (x : Option α) (Q : α → Prop) : Prop := ∃ y, x = some y ∧ Q y

theorem Ret.pure {α : Type} {y : α} {Q : α → Prop} (h : Q y) : Ret (some y) Q := ⟨y, rfl, h⟩
theorem Ret.bind {α β : Type} {x : Option α} {f : α → Option β} {Q : β → Prop} (h : Ret x fun y => Ret (f y) Q) : Ret (Option.bind x f) Q := by
  obtain ⟨y, rfl, z, hz, hq⟩ := h
  exact ⟨z, hz, hq⟩
theorem Ret.bind' {α β : Type} {x : Option α} {f : α → Option β} {P : α → Prop} {Q : β → Prop} (h : Ret x P) (h' : ∀ y, x = some y → P y → Ret (f y) Q) : Ret (Option.bind x f) Q := by
  obtain ⟨y, rfl, hp⟩ := h
  exact h' y rfl hp
theorem Ret.cond {α : Type} {c : Bool} {a b : Option α} {Q : α → Prop} (h : c = true → Ret a Q) (h' : c = false → Ret b Q) : Ret (bif c then a else b) Q := by
  cases c
  · exact h' rfl
  · exact h rfl
theorem Ret.ix {α : Type} {i : Int} {n : Nat} {f : Nat → Option α} {Q : α → Prop} (h0 : 0 ≤ i) (h1 : i < n) (h : Ret (f i.toNat) Q) : Ret (Option.bind (ix i n) f) Q := by
  rw [ix_ok h0 h1]; exact h
theorem Ret.mono {α : Type} {x : Option α} {P Q : α → Prop} (h : Ret x P) (hpq : ∀ y, P y → Q y) : Ret x Q := by
  obtain ⟨y, hy, hp⟩ := h
  exact ⟨y, hy, hpq y hp⟩
theorem Ret.of_eq {α : Type} {x : Option α} {y : α} {Q : α → Prop} (h : x = some y) (hq : Q y) : Ret x Q := ⟨y, h, hq⟩

theorem Ret.iter {D O : Type} {step : (D → Option O) → D → Option O} (P : Nat → D → Prop) (Q : O → Prop)
    (h : ∀ r n d, P n d → (∀ m d', m < n → P m d' → Ret (r d') Q) → Ret (step r d) Q) : ∀ N n d, P n d → n < N → Ret (iter step N d) Q := by
  intro N
  induction N with
  | zero => intro n d _ h0; omega
  | succ N ih =>
    intro n d hp hn
    rw [iter_succ]
    exact h _ n d hp fun m d' hm hp' => ih m d' hp' (by omega)

/-- Both come to values that belong together. -/
def Ret2 {α β : Type} (x : Option α) (x' : Option β) (Q : α → β → Prop) : Prop := ∃ y y', x = some y ∧ x' = some y' ∧ Q y y'

theorem Ret2.pure {α β : Type} {y : α} {y' : β} {Q : α → β → Prop} (h : Q y y') : Ret2 (some y) (some y') Q := ⟨y, y', rfl, rfl, h⟩
theorem Ret2.bind' {α β α' β' : Type} {x : Option α} {f : α → Option β} {x' : Option α'} {f' : α' → Option β'} {P : α → α' → Prop} {Q : β → β' → Prop} (h : Ret2 x x' P) (h' : ∀ y y', P y y' → Ret2 (f y) (f' y') Q) : Ret2 (Option.bind x f) (Option.bind x' f') Q := by
  obtain ⟨y, y', rfl, rfl, hp⟩ := h
  exact h' y y' hp
theorem Ret2.cond {α β : Type} {c c' : Bool} {a b : Option α} {a' b' : Option β} {Q : α → β → Prop} (hc : c = c') (h : c = true → Ret2 a a' Q) (h' : c = false → Ret2 b b' Q) : Ret2 (bif c then a else b) (bif c' then a' else b') Q := by
  subst hc
  cases c
  · exact h' rfl
  · exact h rfl
theorem Ret2.condL {α β : Type} {c : Bool} {a b : Option α} {a' : Option β} {Q : α → β → Prop} (h : c = true → Ret2 a a' Q) (h' : c = false → Ret2 b a' Q) : Ret2 (bif c then a else b) a' Q := by
  cases c
  · exact h' rfl
  · exact h rfl
theorem Ret2.condR {α β : Type} {c : Bool} {a : Option α} {a' b' : Option β} {Q : α → β → Prop} (h : c = true → Ret2 a a' Q) (h' : c = false → Ret2 a b' Q) : Ret2 a (bif c then a' else b') Q := by
  cases c
  · exact h' rfl
  · exact h rfl
theorem Ret2.ixL {α β : Type} {i : Int} {n : Nat} {f : Nat → Option α} {x' : Option β} {Q : α → β → Prop} (h0 : 0 ≤ i) (h1 : i < n) (h : Ret2 (f i.toNat) x' Q) : Ret2 (Option.bind (Fw.ix i n) f) x' Q := by
  rw [ix_ok h0 h1]; exact h
theorem Ret2.ixR {α β : Type} {i : Int} {n : Nat} {f : Nat → Option β} {x : Option α} {Q : α → β → Prop} (h0 : 0 ≤ i) (h1 : i < n) (h : Ret2 x (f i.toNat) Q) : Ret2 x (Option.bind (Fw.ix i n) f) Q := by
  rw [ix_ok h0 h1]; exact h
theorem Ret2.mono {α β : Type} {x : Option α} {x' : Option β} {P Q : α → β → Prop} (h : Ret2 x x' P) (hpq : ∀ y y', P y y' → Q y y') : Ret2 x x' Q := by
  obtain ⟨y, y', hy, hy', hp⟩ := h
  exact ⟨y, y', hy, hy', hpq y y' hp⟩
theorem Ret2.iter {D O D' O' : Type} {step : (D → Option O) → D → Option O} {step' : (D' → Option O') → D' → Option O'} (P : Nat → D → D' → Prop) (Q : O → O' → Prop)
    (h : ∀ r r' n d e, P n d e → (∀ m d' e', m < n → P m d' e' → Ret2 (r d') (r' e') Q) → Ret2 (step r d) (step' r' e) Q) : ∀ N n d e, P n d e → n < N → Ret2 (iter step N d) (iter step' N e) Q := by
  intro N
  induction N with
  | zero => intro n d e _ h0; omega
  | succ N ih =>
    intro n d e hp hn
    rw [iter_succ, iter_succ]
    exact h _ _ n d e hp fun m d' e' hm hp' => ih m d' e' hp' (by omega)

/-- Both come to the same value, which has the property. -/
def Same {α : Type} (x x' : Option α) (Q : α → Prop) : Prop := ∃ y, x = some y ∧ x' = some y ∧ Q y
theorem Same.of {α : Type} {x x' : Option α} {Q : α → Prop} (h : x = x') (hr : Ret x Q) : Same x x' Q := by
  obtain ⟨y, hy, hq⟩ := hr
  exact ⟨y, hy, h ▸ hy, hq⟩
theorem Same.ret {α : Type} {x x' : Option α} {Q : α → Prop} (h : Same x x' Q) : Ret x Q := by
  obtain ⟨y, hy, _, hq⟩ := h
  exact ⟨y, hy, hq⟩
theorem Same.eq {α : Type} {x x' : Option α} {Q : α → Prop} (h : Same x x' Q) : x = x' := by
  obtain ⟨y, hy, hy', hq⟩ := h
  rw [hy, hy']
theorem Same.two {α : Type} {x x' : Option α} {Q : α → Prop} (h : Same x x' Q) : Ret2 x x' fun y y' => y = y' ∧ Q y := by
  obtain ⟨y, hy, hy', hq⟩ := h
  exact ⟨y, y, hy, hy', rfl, hq⟩
theorem Ret2.same {α : Type} {x x' : Option α} {Q : α → Prop} (h : Ret2 x x' fun y y' => y = y' ∧ Q y) : Same x x' Q := by
  obtain ⟨y, _, hy, hy', rfl, hq⟩ := h
  exact ⟨y, hy, hy', hq⟩
theorem Same.pure {α : Type} {y : α} {Q : α → Prop} (h : Q y) : Same (some y) (some y) Q := ⟨y, rfl, rfl, h⟩

theorem opt_bind_assoc {α β γ : Type} (x : Option α) (f : α → Option β) (g : β → Option γ) : Option.bind (Option.bind x f) g = Option.bind x fun y => Option.bind (f y) g := by cases x <;> rfl
theorem opt_bind_cond {α β : Type} (c : Bool) (a b : Option α) (g : α → Option β) : Option.bind (bif c then a else b) g = bif c then Option.bind a g else Option.bind b g := by cases c <;> rfl
theorem szL_nil {α : Type} (s : α → Nat) : szL s [] = 0 := rfl

/-! ### conditions as propositions -/
theorem ilt_T (a b : Int) : (ilt a b = true) = (a < b) := by simp [ilt]
theorem ilt_F (a b : Int) : (ilt a b = false) = (b ≤ a) := by simp [ilt]
theorem ile_T (a b : Int) : (ile a b = true) = (a ≤ b) := by simp [ile]
theorem ile_F (a b : Int) : (ile a b = false) = (b < a) := by simp [ile]
theorem ieq_T (a b : Int) : (ieq a b = true) = (a = b) := by simp [ieq]
theorem ieq_F (a b : Int) : (ieq a b = false) = (a ≠ b) := by simp [ieq]
theorem bnot_T (b : Bool) : ((!b) = true) = (b = false) := by cases b <;> simp
theorem bnot_F (b : Bool) : ((!b) = false) = (b = true) := by cases b <;> simp
theorem ble_T (a b : Nat) : (Nat.ble a b = true) = (a ≤ b) := by simp
theorem ble_F (a b : Nat) : (Nat.ble a b = false) = (b < a) := by
  rw [eq_iff_iff]
  constructor
  · intro h
    rcases Nat.lt_or_ge b a with h' | h'
    · exact h'
    · rw [Nat.ble_eq_true_of_le h'] at h; cases h
  · intro h
    cases hb : Nat.ble a b
    · rfl
    · exact absurd (Nat.le_of_ble_eq_true hb) (by omega)
theorem nz_T (a : Int) : (nz a = true) = (a ≠ 0) := by simp [nz]
theorem nz_F (a : Int) : (nz a = false) = (a = 0) := by simp [nz]
theorem nonneg_T (a : Int) : (nonneg a = true) = (0 ≤ a) := by simp [nonneg]
theorem nonneg_F (a : Int) : (nonneg a = false) = (a < 0) := by simp [nonneg]

theorem irem_nn {a b : Int} (h : 0 ≤ a) : irem .i64 a b = a % b := Int.tmod_eq_emod_of_nonneg h
theorem iquo_nn {a b : Int} (h : 0 ≤ a) (hb : 0 < b) (h' : a < 9223372036854775808) : iquo .i64 a b = a / b := by
  have h1 : a / b ≤ a := Int.ediv_le_self b h
  have h2 : 0 ≤ a / b := Int.ediv_nonneg h (by omega)
  unfold iquo
  rw [Int.tdiv_eq_ediv_of_nonneg h, wrap_i64 (by omega) (by omega)]
theorem iquo_ok {a b : Int} (h : -9223372036854775808 ≤ a.tdiv b) (h' : a.tdiv b < 9223372036854775808) : iquo .i64 a b = a.tdiv b := wrap_i64 h h'

theorem ilt_not (a b : Int) : ilt a b = !(ile b a) := by unfold ilt ile; by_cases h : b ≤ a <;> simp [h] <;> omega
theorem ieq_comm (a b : Int) : ieq a b = ieq b a := by
  by_cases h : a = b
  · rw [h]
  · rw [ieq_f h, ieq_f (fun e => h e.symm)]
theorem szL_append {α : Type} (s : α → Nat) : ∀ (l m : List α), szL s (l ++ m) = szL s l + szL s m
  | [], m => by simp [szL]
  | x :: l, m => by simp only [List.cons_append, szL, szL_append s l m]; omega
theorem szL_set {α : Type} (s : α → Nat) (x : α) : ∀ (l : List α) (i : Nat), szL s (l.set i x) ≤ szL s l + s x
  | [], i => by simp [szL]
  | y :: l, 0 => by simp only [List.set_cons_zero, szL]; omega
  | y :: l, i + 1 => by have := szL_set s x l i; simp only [List.set_cons_succ, szL]; omega
theorem szL_replicate {α : Type} (s : α → Nat) (x : α) : ∀ n : Nat, szL s (List.replicate n x) = n * (1 + s x)
  | 0 => by simp [szL]
  | n + 1 => by simp only [List.replicate_succ, szL, szL_replicate s x n, Nat.add_mul]; omega

/-! ### loops that look at one element after another -/
def allFrom (g : Nat → Bool) : Nat → Nat → Bool
  | _, 0 => true
  | i, k + 1 => bif g i then allFrom g (i + 1) k else false
theorem allFrom_T {g : Nat → Bool} : ∀ {k i : Nat}, allFrom g i k = true → ∀ j, i ≤ j → j < i + k → g j = true
  | 0, i, _, j, h1, h2 => by omega
  | k + 1, i, h, j, h1, h2 => by
    unfold allFrom at h
    cases hg : g i
    · rw [hg] at h; cases h
    · rw [hg] at h
      by_cases e : j = i
      · rw [e]; exact hg
      · exact allFrom_T (k := k) (i := i + 1) h j (by omega) (by omega)
theorem allFrom_of {g : Nat → Bool} : ∀ {k i : Nat}, (∀ j, i ≤ j → j < i + k → g j = true) → allFrom g i k = true
  | 0, i, _ => rfl
  | k + 1, i, h => by
    unfold allFrom
    rw [h i (Nat.le_refl _) (by omega), cond_t]
    exact allFrom_of fun j h1 h2 => h j (by omega) (by omega)
theorem allFrom_congr {g g' : Nat → Bool} : ∀ {k i : Nat}, (∀ j, i ≤ j → j < i + k → g j = g' j) → allFrom g i k = allFrom g' i k
  | 0, i, _ => rfl
  | k + 1, i, h => by
    unfold allFrom
    rw [h i (Nat.le_refl _) (by omega), allFrom_congr (k := k) (i := i + 1) fun j h1 h2 => h j (by omega) (by omega)]
theorem all_loop' {D O : Type} {step : (D → Option O) → D → Option O} (d : Nat → D) (good : O) (bad : Nat → O) (g : Nat → Bool) (n : Nat)
    (h1 : ∀ i, i < n → ∀ r, step r (d i) = bif g i then r (d (i + 1)) else some (bad i)) (h2 : ∀ r, step r (d n) = some good) :
    ∀ (k i N : Nat), i + k = n → k < N → ∃ o, iter step N (d i) = some o ∧ (allFrom g i k = true → o = good) ∧ (allFrom g i k = false → ∃ j, i ≤ j ∧ j < n ∧ g j = false ∧ o = bad j)
  | 0, i, N + 1, hi, hN => ⟨good, by rw [iter_succ, show i = n by omega]; exact h2 _, fun _ => rfl, nofun⟩
  | k + 1, i, N + 1, hi, hN => by
    rw [iter_succ, h1 i (by omega)]
    unfold allFrom
    cases hg : g i
    · exact ⟨bad i, rfl, nofun, fun _ => ⟨i, Nat.le_refl _, by omega, hg, rfl⟩⟩
    · obtain ⟨o, ho, h3, h4⟩ := all_loop' d good bad g n h1 h2 k (i + 1) N (by omega) (by omega)
      refine ⟨o, ho, h3, fun h => ?_⟩
      obtain ⟨j, h5, h6, h7, h8⟩ := h4 h
      exact ⟨j, by omega, h6, h7, h8⟩
theorem all_loop {D O : Type} {step : (D → Option O) → D → Option O} (d : Nat → D) (good bad : O) (g : Nat → Bool) (n : Nat)
    (h1 : ∀ i, i < n → ∀ r, step r (d i) = bif g i then r (d (i + 1)) else some bad) (h2 : ∀ r, step r (d n) = some good) (hn : n < 4611686018427387904) : iter step fuel (d 0) = some (bif allFrom g 0 n then good else bad) := by
  obtain ⟨o, ho, h3, h4⟩ := all_loop' d good (fun _ => bad) g n h1 h2 n 0 fuel (by omega) (by unfold fuel; omega)
  rw [ho]
  cases hg : allFrom g 0 n
  · obtain ⟨j, _, _, _, e⟩ := h4 hg; rw [e]; rfl
  · rw [h3 hg]; rfl
theorem bif_not {α : Type} (b : Bool) (x y : α) : (bif !b then x else y) = bif b then y else x := by cases b <;> rfl
theorem nat_int_toNat (i : Nat) : ((i : Int)).toNat = i := Int.toNat_natCast i
theorem ix_nat {i n : Nat} (h : i < n) : ix (i : Int) n = some i := by rw [ix_ok (by omega) (by omega), nat_int_toNat]
theorem ilt_nat {i n : Nat} (h : i < n) : ilt (i : Int) (n : Int) = true := ilt_t (by omega)
theorem ilt_self (n : Int) : ilt n n = false := ilt_f (Int.le_refl _)
theorem iadd_nat {i : Nat} (h : i < 4611686018427387904) : iadd .i64 (i : Int) 1 = ((i + 1 : Nat) : Int) := by rw [iadd_ok (by omega) (by omega)]; omega
theorem allFrom_shift {g : Nat → Bool} : ∀ {k i : Nat}, allFrom (fun j => g (j + 1)) i k = allFrom g (i + 1) k
  | 0, i => rfl
  | k + 1, i => by unfold allFrom; rw [allFrom_shift]
theorem allFrom_eq {g g' : Nat → Bool} {i k : Nat} (h : (∀ j, i ≤ j → j < i + k → g j = true) ↔ ∀ j, i ≤ j → j < i + k → g' j = true) : allFrom g i k = allFrom g' i k := by
  rw [Bool.eq_iff_iff]
  exact ⟨fun h1 => allFrom_of (h.1 (allFrom_T h1)), fun h1 => allFrom_of (h.2 (allFrom_T h1))⟩
theorem all_loop1 {D O : Type} {step : (D → Option O) → D → Option O} (d : Nat → D) (good bad : O) (g : Nat → Bool) (i k : Nat)
    (h1 : ∀ j, i ≤ j → j < i + k → ∀ r, step r (d j) = bif g j then r (d (j + 1)) else some bad) (h2 : ∀ r, step r (d (i + k)) = some good) (hn : k < 4611686018427387904) : iter step fuel (d i) = some (bif allFrom g i k then good else bad) := by
  have := all_loop (step := step) (fun j => d (i + j)) good bad (fun j => g (i + j)) k (fun j hj r => h1 (i + j) (by omega) (by omega) r) h2 hn
  rw [show d i = d (i + 0) from rfl, this]
  congr 2
  have key : ∀ k j, allFrom (fun j => g (i + j)) j k = allFrom g (i + j) k := by
    intro k
    induction k with
    | zero => intro j; rfl
    | succ k ih => intro j; unfold allFrom; rw [ih]; rfl
  exact key k 0
/-- Two lists, element by element. -/
def eqL {α : Type} (f : α → α → Bool) (z : α) (a b : List α) : Bool := bif ieq (a.length : Int) (b.length : Int) then allFrom (fun j => f (a.getD j z) (b.getD j z)) 0 a.length else false

theorem bif_T (c a b : Bool) : ((bif c then a else b) = true) = ((c = true ∧ a = true) ∨ (c = false ∧ b = true)) := by cases c <;> simp
theorem bif_F (c a b : Bool) : ((bif c then a else b) = false) = ((c = true ∧ a = false) ∨ (c = false ∧ b = false)) := by cases c <;> simp
theorem map_getD {α β : Type} (f : α → β) (l : List α) (j : Nat) (z : α) (y : β) (h : j < l.length) : (l.map f).getD j y = f (l.getD j z) := by
  simp [List.getD_eq_getElem?_getD, h]
/-- A loop that makes a list, element by element. -/
theorem map_loop {α β D O : Type} {step : (D → Option O) → D → Option O} (d : Nat → List β → D) (out : List β → O) (f : α → β) (l : List α)
    (h1 : ∀ pre x suf r acc, l = pre ++ x :: suf → acc.length = pre.length → step r (d pre.length acc) = r (d (pre.length + 1) (acc ++ [f x])))
    (h2 : ∀ r acc, step r (d l.length acc) = some (out acc)) (hl : l.length < 4611686018427387904) : iter step fuel (d 0 []) = some (out (l.map f)) := by
  have key : ∀ (suf pre : List α) (N : Nat), l = pre ++ suf → suf.length < N → iter step N (d pre.length (pre.map f)) = some (out (l.map f)) := by
    intro suf
    induction suf with
    | nil =>
      intro pre N he hN
      obtain _ | N := N
      · omega
      rw [List.append_nil] at he
      rw [iter_succ, ← he, h2]
    | cons x suf ih =>
      intro pre N he hN
      obtain _ | N := N
      · omega
      rw [iter_succ, h1 pre x suf _ _ he (List.length_map ..)]
      have := ih (pre ++ [x]) N (by rw [he]; simp) (by simp at hN; omega)
      rwa [List.length_append, List.map_append] at this
  exact key l [] fuel rfl (by unfold fuel; omega)

/-- Whether one of them has it. -/
theorem contains_of {D : Type} {step : (D → Option (Bool × ((Int × Unit) × Unit))) → D → Option (Bool × ((Int × Unit) × Unit))} (d : Nat → D) (t : Int) (g : Nat → Bool) (n : Nat)
    (h1 : ∀ i, i < n → ∀ r, step r (d i) = bif g i then r (d (i + 1)) else some (true, (((i : Int), ()), ()))) (h2 : ∀ r, step r (d n) = some (false, ((t, ()), ()))) (hn : n < 4611686018427387904) :
    (Option.bind (iter step fuel (d 0)) fun y => bif y.1 then some (ile 0 y.2.1.1) else some (ile 0 (-1))) = some (!(allFrom g 0 n)) := by
  obtain ⟨o, ho, h3, h4⟩ := all_loop' d _ (fun i : Nat => (true, (((i : Int), ()), ()))) g n h1 h2 n 0 fuel (by omega) (by unfold fuel; omega)
  rw [ho, opt_bind_some]
  cases hg : allFrom g 0 n
  · obtain ⟨j, _, _, _, e⟩ := h4 hg
    rw [e]
    show some (ile 0 (j : Int)) = _
    rw [ile_t (by omega)]; rfl
  · rw [h3 hg]; rfl

end Go.Fw
