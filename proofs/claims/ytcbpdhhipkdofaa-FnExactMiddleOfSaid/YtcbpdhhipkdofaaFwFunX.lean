/- A function that changes what it is lent: the interpreter's run of the body is a model. No condition. -/
import Derived.Test.YtcbpdhhipkdofaaFwFun
namespace Go.Fw

/-- What has come in, as the call's own blocks from n on. -/
def EnterOK (Γ : Ctx) (n : Nat) : (p : PTy) → p.D → Value → Prop
  | .own false τ, x, v => All2 (cRel Γ) (imp true n τ x).1 [v] ∧ v.oneCell' = true
  | .own true τ, x, v => ∃ arr, v = .agg arr ∧ All2 (cRel Γ) (imp true n τ x).1 arr.toList
  | p, x, v => ArgRel Γ.h Γ.S p x v (fun _ => False)

def Entered (Γ : Ctx) : Nat → (ps : List PTy) → PD ps → List Value → Prop
  | _, [], _, vs => vs = []
  | n, p :: r, ds, vs => ∃ v vr, vs = v :: vr ∧ EnterOK Γ n p ds.1 v ∧ Entered Γ (n + (enterP n p ds.1).2.length) r ds.2 vr

/-- Parameters that this serves. -/
def xOnly : List PTy → Bool
  | [] => true
  | .ro _ _ :: r => xOnly r
  | .rptr _ :: r => xOnly r
  | .fnc _ _ :: r => xOnly r
  | .own _ τ :: r => noR τ && xOnly r
  | .optr _ :: _ => false

theorem EnterOK.same {Γ Δ : Ctx} (M : Moves Γ Δ [] []) (hh : Δ.h = Γ.h) (hS : Δ.S = Γ.S) {n : Nat} {p : PTy} {x : p.D} {v : Value} (h : EnterOK Γ n p x v) : EnterOK Δ n p x v := by
  cases p with
  | own ag τ =>
    cases ag
    · exact ⟨h.1.imp fun _ _ h => h.same M, h.2⟩
    · obtain ⟨arr, e, h⟩ := h
      exact ⟨arr, e, h.imp fun _ _ h => h.same M⟩
  | ro ag τ => unfold EnterOK at h ⊢; rw [hh, hS]; exact h
  | rptr τ => unfold EnterOK at h ⊢; rw [hh, hS]; exact h
  | fnc f caps => unfold EnterOK at h ⊢; rw [hh, hS]; exact h
  | optr τ => unfold EnterOK at h ⊢; rw [hh, hS]; exact h

theorem Entered.same {Γ Δ : Ctx} (M : Moves Γ Δ [] []) (hh : Δ.h = Γ.h) (hS : Δ.S = Γ.S) : ∀ {ps : List PTy} {n : Nat} {ds : PD ps} {vs : List Value}, Entered Γ n ps ds vs → Entered Δ n ps ds vs
  | [], _, _, _, h => h
  | _ :: _, _, _, _, h => by
    obtain ⟨v, vr, e, h1, h2⟩ := h
    exact ⟨v, vr, e, h1.same M hh hS, Entered.same M hh hS h2⟩

theorem enter_spec {h : Heap} {S : Nat → Prop} : ∀ (ps : List PTy) (t : Nat) (ds : PD ps) (vs : List Value) (G : Nat → Prop) (pre : List Blk) (m : Nat → Nat) (H : Nat → Value) (F : Nat → Nat → Prop), xOnly ps = true → ArgsRel h S ps ds vs G →
    ∃ m' H' F', (∀ b, b < pre.length → m' b = m b ∧ H' b = H b ∧ F' b = F b) ∧ Entered ⟨h, S, m', H', F', pre ++ (enterPs t pre.length ps ds).2⟩ pre.length ps ds vs ∧
      (∀ j k, (enterPs t pre.length ps ds).2[j]? = some k → blkRel ⟨h, S, m', H', F', pre ++ (enterPs t pre.length ps ds).2⟩ (pre.length + j) k ∧ ∀ c, F' (pre.length + j) c → G c) ∧
      ∀ j j', j ≠ j' → j < (enterPs t pre.length ps ds).2.length → j' < (enterPs t pre.length ps ds).2.length → ∀ c, F' (pre.length + j) c → ¬ F' (pre.length + j') c
  | [], t, ds, vs, G, pre, m, H, F, _, h => by
    cases h
    exact ⟨m, H, F, fun _ _ => ⟨rfl, rfl, rfl⟩, rfl, fun j k hj => by simp [enterPs] at hj, fun j j' _ hj => by simp [enterPs] at hj⟩
  | p :: r, t, ds, vs, G, pre, m, H, F, hp, ha => by
    obtain ⟨v, vr, F1, F2, rfl, h1, h2, s1, s2, d⟩ := ha
    have key : xOnly r = true ∧ ∃ m' H' F', (∀ b, b < pre.length → m' b = m b ∧ H' b = H b ∧ F' b = F b) ∧ EnterOK ⟨h, S, m', H', F', pre ++ (enterP pre.length p ds.1).2⟩ pre.length p ds.1 v ∧
        (∀ j k, (enterP pre.length p ds.1).2[j]? = some k → blkRel ⟨h, S, m', H', F', pre ++ (enterP pre.length p ds.1).2⟩ (pre.length + j) k ∧ ∀ c, F' (pre.length + j) c → F1 c) ∧
        ∀ j j', j ≠ j' → j < (enterP pre.length p ds.1).2.length → j' < (enterP pre.length p ds.1).2.length → ∀ c, F' (pre.length + j) c → ¬ F' (pre.length + j') c := by
      cases p with
      | own ag τ =>
        simp only [xOnly, Bool.and_eq_true] at hp
        refine ⟨hp.2, ?_⟩
        cases ag
        · obtain ⟨ho, h1c⟩ := h1
          obtain ⟨m', H', F', k1, a1, b1, d1⟩ := imp_spec true τ ds.1 [v] F1 pre m H F ho
          exact ⟨m', H', F', k1, ⟨a1, h1c⟩, b1, d1⟩
        · obtain ⟨arr, rfl, ho⟩ := h1
          obtain ⟨m', H', F', k1, a1, b1, d1⟩ := imp_spec true τ ds.1 arr.toList F1 pre m H F ho
          exact ⟨m', H', F', k1, ⟨arr, rfl, a1⟩, b1, d1⟩
      | ro ag τ => exact ⟨hp, m, H, F, fun _ _ => ⟨rfl, rfl, rfl⟩, by cases ag <;> exact h1, fun j k hj => by simp [enterP] at hj, fun j j' _ hj => by simp [enterP] at hj⟩
      | rptr τ => exact ⟨hp, m, H, F, fun _ _ => ⟨rfl, rfl, rfl⟩, h1, fun j k hj => by simp [enterP] at hj, fun j j' _ hj => by simp [enterP] at hj⟩
      | fnc f caps => exact ⟨hp, m, H, F, fun _ _ => ⟨rfl, rfl, rfl⟩, h1, fun j k hj => by simp [enterP] at hj, fun j j' _ hj => by simp [enterP] at hj⟩
      | optr τ => cases hp
    obtain ⟨hr, m1, H1, G1, k1, e1, b1, d1⟩ := key
    have ee : (enterPs t pre.length (p :: r) ds).2 = (enterP pre.length p ds.1).2 ++ (enterPs (t + 1) (pre.length + (enterP pre.length p ds.1).2.length) r ds.2).2 := rfl
    generalize hl1 : (enterP pre.length p ds.1).2 = l1 at *
    have hl : (pre ++ l1).length = pre.length + l1.length := List.length_append
    obtain ⟨m2, H2, G2, k2, e2, b2, d2⟩ := enter_spec r (t + 1) ds.2 vr F2 (pre ++ l1) m1 H1 G1 hr h2
    rw [hl] at k2 e2 b2 d2
    generalize hl2 : (enterPs (t + 1) (pre.length + l1.length) r ds.2).2 = l2 at *
    have M : Moves ⟨h, S, m1, H1, G1, pre ++ l1⟩ ⟨h, S, m2, H2, G2, pre ++ l1 ++ l2⟩ [] [] := Moves.more fun b hb => k2 b (by rwa [hl] at hb)
    refine ⟨m2, H2, G2, fun b hb => ?_, ?_, ?_, ?_⟩
    · obtain ⟨g1, g2, g3⟩ := k2 b (by omega)
      obtain ⟨f1, f2, f3⟩ := k1 b hb
      exact ⟨g1.trans f1, g2.trans f2, g3.trans f3⟩
    · rw [ee, ← List.append_assoc]
      refine ⟨v, vr, rfl, e1.same M rfl rfl, ?_⟩
      rw [hl1]
      exact e2
    · intro j k hj
      rw [ee] at hj ⊢
      rw [← List.append_assoc]
      rcases Nat.lt_or_ge j l1.length with hlt | hge
      · rw [getElem?_append_lt hlt] at hj
        obtain ⟨hb, hF⟩ := b1 j k hj
        have hk2 := k2 (pre.length + j) (by omega)
        exact ⟨hb.same M hk2 (fun _ _ => rfl), fun c hc => s1 c (hF c (by rw [← hk2.2.2]; exact hc))⟩
      · rw [List.getElem?_append_right hge] at hj
        obtain ⟨hb, hF⟩ := b2 _ k hj
        have e : pre.length + l1.length + (j - l1.length) = pre.length + j := by omega
        rw [e] at hb hF
        exact ⟨hb, fun c hc => s2 c (hF c hc)⟩
    · intro j j' hne hj hj' c
      rw [ee, List.length_append] at hj hj'
      rcases Nat.lt_or_ge j l1.length with hlt | hge <;> rcases Nat.lt_or_ge j' l1.length with hlt' | hge'
      · rw [(k2 (pre.length + j) (by omega)).2.2, (k2 (pre.length + j') (by omega)).2.2]
        exact d1 j j' hne hlt hlt' c
      · intro hc hc'
        rw [(k2 (pre.length + j) (by omega)).2.2] at hc
        obtain ⟨k, hk⟩ : ∃ k, l1[j]? = some k := ⟨_, List.getElem?_eq_getElem hlt⟩
        obtain ⟨k', hk'⟩ : ∃ k, l2[j' - l1.length]? = some k := ⟨_, List.getElem?_eq_getElem (by omega)⟩
        have e : pre.length + l1.length + (j' - l1.length) = pre.length + j' := by omega
        refine d c ((b1 j k hk).2 c hc) ((b2 _ k' hk').2 c ?_)
        rw [e]; exact hc'
      · intro hc hc'
        rw [(k2 (pre.length + j') (by omega)).2.2] at hc'
        obtain ⟨k, hk⟩ : ∃ k, l1[j']? = some k := ⟨_, List.getElem?_eq_getElem hlt'⟩
        obtain ⟨k', hk'⟩ : ∃ k, l2[j - l1.length]? = some k := ⟨_, List.getElem?_eq_getElem (by omega)⟩
        have e : pre.length + l1.length + (j - l1.length) = pre.length + j := by omega
        refine d c ((b1 j' k hk).2 c hc') ((b2 _ k' hk').2 c ?_)
        rw [e]; exact hc
      · have := d2 (j - l1.length) (j' - l1.length) (by omega) (by omega) (by omega) c
        have e : pre.length + l1.length + (j - l1.length) = pre.length + j := by omega
        have e' : pre.length + l1.length + (j' - l1.length) = pre.length + j' := by omega
        rwa [e, e'] at this

theorem entered_fr {Γ : Ctx} : ∀ (ps : List PTy) (t n : Nat) (ds : PD ps) (vs : List Value), xOnly ps = true → Entered Γ n ps ds vs →
    ∀ u v, (vs[u]? = some v → fvRel Γ (look (enterPs t n ps ds).1 (t + u)) v) ∧ (vs[u]? = none → look (enterPs t n ps ds).1 (t + u) = .undef)
  | [], t, n, ds, vs, _, h, u, v => by
    cases h
    exact ⟨fun h => by simp at h, fun _ => rfl⟩
  | p :: r, t, n, ds, vs, hp, h, u, v => by
    obtain ⟨v0, vr, rfl, h1, h2⟩ := h
    have key : fvRel Γ (enterP n p ds.1).1 v0 ∧ xOnly r = true := by
      cases p with
      | own ag τ =>
        simp only [xOnly, Bool.and_eq_true] at hp
        refine ⟨?_, hp.2⟩
        cases ag
        · exact wrapV_rel (ag := false) h1.1 (fun e => by cases e) fun _ => rfl
        · obtain ⟨arr, rfl, h1⟩ := h1
          exact wrapV_rel (ag := true) h1 (fun _ => by simp) fun e => by cases e
      | ro ag τ =>
        refine ⟨?_, hp⟩
        cases ag
        · exact wrapV_rel (ag := false) (enc_rel τ ds.1 _ h1.1) (fun e => by cases e) fun _ => rfl
        · obtain ⟨arr, rfl, h1⟩ := h1
          exact wrapV_rel (ag := true) (enc_rel τ ds.1 _ h1) (fun _ => by simp) fun e => by cases e
      | rptr τ => exact ⟨ref_view h1, hp⟩
      | fnc f caps =>
        obtain ⟨vs, rfl, h1⟩ := h1
        exact ⟨⟨vs, rfl, caps_view caps ds.1 _ h1⟩, hp⟩
      | optr τ => cases hp
    obtain ⟨k2, k3⟩ := key
    have i2 := entered_fr r (t + 1) (n + (enterP n p ds.1).2.length) ds.2 vr k3 h2
    cases u with
    | zero =>
      refine ⟨fun hv => ?_, fun hv => by simp at hv⟩
      simp at hv
      subst hv
      simp only [enterPs, Nat.add_zero, look, Nat.beq_refl, cond_true]
      exact k2
    | succ u =>
      have hb : Nat.beq t (t + (u + 1)) = false := by
        cases hb : Nat.beq t (t + (u + 1))
        · rfl
        · have := Nat.eq_of_beq_eq_true hb; omega
      simp only [enterPs, look, hb, cond_false, List.getElem?_cons_succ]
      rw [show t + (u + 1) = t + 1 + u by omega]
      exact i2 u v

section leave
variable {Γ Δ : Ctx} (hb : ∀ b k, Δ.loc[b]? = some k → blkRel Δ b k) (hd : ∀ b b' k k', Δ.loc[b]? = some k → Δ.loc[b']? = some k' → k.alive = true → k'.alive = true → b ≠ b' → ∀ c, Δ.F b c → ¬ Δ.F b' c)
  (hpin : ∀ b τ xs, Δ.loc[b]? = some (.row true τ xs) → Δ.H b = Γ.H b) (hS : ∀ c, Γ.S c → Δ.h[c]? = Γ.h[c]?) (eS : Δ.S = Γ.S)
include hb hd hpin

theorem leaveD_rel : (τ : Ty) → (n : Nat) → (x y : τ.D) → (l : List Nat) → (vs : List Value) → noR τ = true → leaveD Δ.loc n τ x = some (y, l) → l.Nodup → All2 (cRel Γ) (imp true n τ x).1 vs →
    Own Δ.h Δ.S τ y vs (rowsF Δ.F l) ∧ ∀ b, b ∈ l → ∃ τ xs, Δ.loc[b]? = some (.row true τ xs)
  | .int k, n, x, y, l, vs, _, h, _, ha => by
    cases h
    refine ⟨?_, fun b hb => by cases hb⟩
    cases ha with | cons h1 t => cases t; obtain ⟨rfl, h2⟩ := h1; exact ⟨rfl, h2⟩
  | .bool, n, x, y, l, vs, _, h, _, ha => by
    cases h
    refine ⟨?_, fun b hb => by cases hb⟩
    cases ha with | cons h1 t => cases t; cases h1; rfl
  | .flt k, n, x, y, l, vs, _, h, _, ha => by
    cases h
    refine ⟨?_, fun b hb => by cases hb⟩
    cases ha with | cons h1 t => cases t; obtain ⟨b, rfl, h2⟩ := h1; exact ⟨b, rfl, h2⟩
  | .str, n, x, y, l, vs, _, h, _, ha => by
    cases h
    refine ⟨?_, fun b hb => by cases hb⟩
    cases ha with | cons h1 t => cases t; obtain ⟨rfl, h2⟩ := h1; exact ⟨rfl, h2⟩
  | .unit, n, x, y, l, vs, _, h, _, ha => by
    cases h
    refine ⟨?_, fun b hb => by cases hb⟩
    cases ha; rfl
  | .fn f, n, x, y, l, vs, _, h, _, ha => by
    cases h
    exact ⟨cFn_rel (cs := [.fn f []]) (f := f) (u := ()) (by simp [cFn]) ha, fun b hb => by cases hb⟩
  | .rslice e, n, x, y, l, vs, hn, _, _, _ => by cases hn
  | .ref e, n, x, y, l, vs, hn, _, _, _ => by cases hn
  | .slice e, n, x, y, l, vs, _, h, _, ha => by
    simp only [leaveD] at h
    split at h
    · rename_i τ xs hl
      split at h
      · rename_i he
        subst he
        cases h
        cases ha with
        | cons h1 t =>
          cases t
          obtain ⟨e1, _⟩ := h1
          obtain ⟨ho, _⟩ := hb n _ hl
          rw [hpin n _ _ hl, ← e1] at ho
          refine ⟨Own.mono (fun _ h => h) (fun _ _ => rfl) _ _ _ _ _ (fun c hc => ⟨n, by simp, hc⟩) (fun _ _ => rfl) ho, fun b hb => ?_⟩
          simp at hb
          subst hb
          exact ⟨_, _, hl⟩
      · cases h
    · cases h
  | .pair a b, n, x, y, l, vs, hn, h, hnd, ha => by
    simp only [leaveD] at h
    simp only [noR, Bool.and_eq_true] at hn
    split at h
    · rename_i y1 l1 y2 l2 h1 h2
      cases h
      have hnd' := List.nodup_append.1 hnd
      simp only [imp] at ha
      obtain ⟨v1, v2, rfl, a1, a2⟩ := ha.split
      obtain ⟨o1, f1⟩ := leaveD_rel a n x.1 y1 l1 v1 hn.1 h1 hnd'.1 a1
      obtain ⟨o2, f2⟩ := leaveD_rel b _ x.2 y2 l2 v2 hn.2 h2 hnd'.2.1 a2
      refine ⟨⟨v1, v2, rowsF Δ.F l1, rowsF Δ.F l2, rfl, o1, o2, fun c ⟨b, h1, h2⟩ => ⟨b, by simp [h1], h2⟩, fun c ⟨b, h1, h2⟩ => ⟨b, by simp [h1], h2⟩, ?_⟩, ?_⟩
      · rintro c ⟨b1, h1, h2⟩ ⟨b2, h3, h4⟩
        obtain ⟨_, _, e1⟩ := f1 b1 h1
        obtain ⟨_, _, e2⟩ := f2 b2 h3
        exact hd b1 b2 _ _ e1 e2 rfl rfl (hnd'.2.2 b1 h1 b2 h3) c h2 h4
      · intro b hb
        rcases List.mem_append.1 hb with hb | hb
        · exact f1 b hb
        · exact f2 b hb
    · cases h

include hS eS in
theorem leavePs_rel : ∀ (ps : List PTy) (n : Nat) (ds y : PD ps) (l : List Nat) (vs : List Value), xOnly ps = true → leavePs Δ.loc n ps ds = some (y, l) → l.Nodup → Entered Γ n ps ds vs →
    ArgsRel Δ.h Γ.S ps y vs (rowsF Δ.F l) ∧ ∀ b, b ∈ l → ∃ τ xs, Δ.loc[b]? = some (.row true τ xs)
  | [], n, ds, y, l, vs, _, h, _, he => by
    cases h
    exact ⟨he, fun b hb => by cases hb⟩
  | p :: r, n, ds, y, l, vs, hp, h, hnd, he => by
    obtain ⟨v, vr, rfl, h1, h2⟩ := he
    simp only [leavePs] at h
    split at h
    · rename_i y1 l1 y2 l2 g1 g2
      cases h
      have hnd' := List.nodup_append.1 hnd
      have ro : ∀ (q : PTy) (x : q.D) (w : Value), ArgRel Γ.h Γ.S q x w (fun _ => False) → (∀ ag τ, q ≠ .own ag τ) → (∀ τ, q ≠ .optr τ) → ArgRel Δ.h Γ.S q x w (fun _ => False) := by
        intro q x w hq n1 n2
        have ref : ∀ (τ : Ty) (x : τ.D) (w : Value), RefRel Γ.h Γ.S τ x w → RefRel Δ.h Γ.S τ x w := by
          rintro τ x w ⟨c, o, arr, te, fz, rfl, q1, q2, q3, q4⟩
          exact ⟨c, o, arr, te, fz, rfl, q1, (hS c q1).trans q2, q3, Rep.mono (fun _ h => h) hS _ _ _ q4⟩
        cases q with
        | ro ag τ =>
          cases ag
          · exact ⟨Rep.mono (fun _ h => h) hS _ _ _ hq.1, hq.2⟩
          · obtain ⟨arr, e, hq⟩ := hq
            exact ⟨arr, e, Rep.mono (fun _ h => h) hS _ _ _ hq⟩
        | rptr τ => exact ref _ _ _ hq
        | fnc f caps =>
          obtain ⟨us, e, hq⟩ := hq
          refine ⟨us, e, ?_⟩
          generalize us.toList = l at hq
          clear e
          induction caps generalizing l with
          | nil => exact hq
          | cons τ r ih =>
            obtain ⟨u, ur, rfl, k1, k2⟩ := hq
            exact ⟨u, ur, rfl, ref _ _ _ k1, ih x.2 (fun ag τ => by simp) (fun τ => by simp) ur k2⟩
        | own ag τ => exact (n1 ag τ rfl).elim
        | optr τ => exact (n2 τ rfl).elim
      have key : xOnly r = true ∧ ArgRel Δ.h Γ.S p y1 v (rowsF Δ.F l1) ∧ ∀ b, b ∈ l1 → ∃ τ xs, Δ.loc[b]? = some (.row true τ xs) := by
        cases p with
        | own ag τ =>
          simp only [xOnly, Bool.and_eq_true] at hp
          refine ⟨hp.2, ?_⟩
          cases ag
          · obtain ⟨o1, f1⟩ := leaveD_rel hb hd hpin τ n ds.1 y1 l1 [v] hp.1 g1 hnd'.1 h1.1
            rw [eS] at o1
            exact ⟨⟨o1, h1.2⟩, f1⟩
          · obtain ⟨arr, rfl, h1⟩ := h1
            obtain ⟨o1, f1⟩ := leaveD_rel hb hd hpin τ n ds.1 y1 l1 arr.toList hp.1 g1 hnd'.1 h1
            rw [eS] at o1
            exact ⟨⟨arr, rfl, o1⟩, f1⟩
        | ro ag τ =>
          cases g1
          refine ⟨hp, ?_, fun b hb => by cases hb⟩
          have := ro (.ro ag τ) ds.1 v h1 (fun _ _ => by simp) (fun _ => by simp)
          cases ag <;> exact this
        | rptr τ =>
          cases g1
          exact ⟨hp, ro (.rptr τ) ds.1 v h1 (fun _ _ => by simp) (fun _ => by simp), fun b hb => by cases hb⟩
        | fnc f caps =>
          cases g1
          exact ⟨hp, ro (.fnc f caps) ds.1 v h1 (fun _ _ => by simp) (fun _ => by simp), fun b hb => by cases hb⟩
        | optr τ => cases hp
      obtain ⟨k1, k2, k3⟩ := key
      obtain ⟨i1, i2⟩ := leavePs_rel r _ ds.2 y2 l2 vr k1 g2 hnd'.2.1 h2
      refine ⟨⟨v, vr, rowsF Δ.F l1, rowsF Δ.F l2, rfl, k2, i1, fun c ⟨b, h1, h2⟩ => ⟨b, by simp [h1], h2⟩, fun c ⟨b, h1, h2⟩ => ⟨b, by simp [h1], h2⟩, ?_⟩, ?_⟩
      · rintro c ⟨b1, h1, h2⟩ ⟨b2, h3, h4⟩
        obtain ⟨_, _, e1⟩ := k3 b1 h1
        obtain ⟨_, _, e2⟩ := i2 b2 h3
        exact hd b1 b2 _ _ e1 e2 rfl rfl (hnd'.2.2 b1 h1 b2 h3) c h2 h4
      · intro b hb
        rcases List.mem_append.1 hb with hb | hb
        · exact k3 b hb
        · exact i2 b hb
    · cases h
end leave

section fn
variable {P : Program} {E : Tabs}

/-- **A function's call**, of one that changes what it is lent. -/
theorem calls_of_evalX (ok : EnvOK P E) {f : FuncId} {fn : Func} {c : Code} {L : Nat → Option LP} {fx : FX} (hf : P.funcs[f]? = some fn) (hbody : fn.body = some c) (hx : xOnly fx.ps = true) (hnr : noRR fx.res = true)
    (hsz : fx.ps.length ≤ fn.ntmps) (hL : LoopsOK E L fn.ntmps c) {w : World} {args : List Value} {ds : PD fx.ps} {out : fx.res.D × PD fx.ps} {G : Nat → Prop} (hG : ∀ c, G c → c < w.heap.size)
    (hargs : ArgsRel w.heap (fun c => c < w.heap.size ∧ ¬ G c) fx.ps ds args G) (hev : evalX E L fn fx.ps fx.res ds = some out) :
    Calls P f args.toArray w fun e w' => ∃ v, e = .returned v ∧ (w.heap.size ≤ w'.heap.size ∧ (∀ c, c < w.heap.size → ¬ G c → w'.heap[c]? = w.heap[c]?) ∧ w'.os = w.os ∧ w'.tape = w.tape ∧ w'.output = w.output ∧
      ∃ Fr F', ResRel w'.heap (fun _ => False) fx.res out.1 v Fr ∧ ArgsRel w'.heap (fun c => c < w.heap.size ∧ ¬ G c) fx.ps out.2 args F' ∧
        (∀ c, Fr c → (G c ∨ w.heap.size ≤ c) ∧ c < w'.heap.size) ∧ (∀ c, F' c → (G c ∨ w.heap.size ≤ c) ∧ c < w'.heap.size) ∧ ∀ c, Fr c → ¬ F' c) := by
  unfold evalX at hev
  rw [hbody] at hev
  simp only [] at hev
  obtain ⟨m0, H0, F0, _, e0, b0, d0⟩ := enter_spec fx.ps 0 ds args G [] (fun _ => 0) (fun _ => undef) (fun _ _ => False) hx hargs
  simp only [List.nil_append, List.length_nil, Nat.zero_add] at e0 b0 d0
  have hlen : ∀ (ps : List PTy) (ds : PD ps) (vs : List Value) (F : Nat → Prop) (T : Nat → Prop), ArgsRel w.heap T ps ds vs F → vs.length = ps.length := by
    intro ps
    induction ps with
    | nil => intro ds vs F T h; cases h; rfl
    | cons p r ih =>
      intro ds vs F T h
      obtain ⟨_, vr, _, F2, rfl, _, h2, _⟩ := h
      simp [ih _ _ _ _ h2]
  have hal := hlen _ _ _ _ _ hargs
  have allpin : ∀ (ps : List PTy) (t n : Nat) (ds : PD ps) (j : Nat) (k : Blk), xOnly ps = true → (enterPs t n ps ds).2[j]? = some k → k.alive = true := by
    have imp_alive : ∀ (τ : Ty) (n : Nat) (x : τ.D) (j : Nat) (k : Blk), (imp true n τ x).2[j]? = some k → k.alive = true := by
      intro τ
      induction τ with
      | pair a b iha ihb =>
        intro n x j k h
        simp only [imp] at h
        rcases Nat.lt_or_ge j (imp true n a x.1).2.length with hlt | hge
        · rw [List.getElem?_append_left hlt] at h; exact iha _ _ _ _ h
        · rw [List.getElem?_append_right hge] at h; exact ihb _ _ _ _ h
      | slice e _ =>
        intro n x j k h
        cases j with
        | zero => simp [imp] at h; subst h; rfl
        | succ j => simp [imp] at h
      | _ => intro n x j k h; simp [imp] at h
    intro ps
    induction ps with
    | nil => intro t n ds j k _ h; simp [enterPs] at h
    | cons p r ih =>
      intro t n ds j k hp h
      have ee : (enterPs t n (p :: r) ds).2 = (enterP n p ds.1).2 ++ (enterPs (t + 1) (n + (enterP n p ds.1).2.length) r ds.2).2 := rfl
      rw [ee] at h
      have hr : xOnly r = true := by
        cases p with
        | own ag τ => simp only [xOnly, Bool.and_eq_true] at hp; exact hp.2
        | optr τ => cases hp
        | _ => exact hp
      rcases Nat.lt_or_ge j (enterP n p ds.1).2.length with hlt | hge
      · rw [List.getElem?_append_left hlt] at h
        cases p with
        | own ag τ => exact imp_alive τ n ds.1 j k h
        | optr τ => cases hp
        | _ => simp [enterP] at h
      · rw [List.getElem?_append_right hge] at h
        exact ih _ _ _ _ _ hr h
  refine calls_of_wp hf hbody ?_
  refine exec_sound (w0 := ⟨w, H0⟩) (S := fun c => c < w.heap.size ∧ ¬ G c) ok c hL _ out _ _ m0 H0 F0 _ w _ rfl hev ?_ ?_
  · refine ⟨?_, rfl, fun t => ?_, fun b k hk => (b0 b k hk).1, fun b k hk _ c hc => ?_, fun b b' k k' hk hk' _ _ hne => ?_, fun c hc => ⟨hc.1, rfl⟩, Nat.le_refl _, rfl, rfl, rfl, fun b τ xs hb => rfl⟩
    · simp; omega
    · show fvRel _ (look (enterPs 0 0 fx.ps ds).1 t) _
      rw [getElem?_args]
      have := entered_fr fx.ps 0 0 ds args hx e0 t
      rw [Nat.zero_add] at this
      cases hv : args[t]? with
      | none => rw [(this undef).2 hv]; trivial
      | some v => exact (this v).1 hv
    · have := (b0 b k hk).2 c hc
      exact ⟨hG c this, fun hs => hs.2 this⟩
    · exact d0 b b' hne (List.getElem?_eq_some_iff.1 hk).1 (List.getElem?_eq_some_iff.1 hk').1
  · intro e st' m' H' F' a' w' hn he hr'
    have fin : outX E fn fx.ps fx.res ds st' = some out →
        a'.defers = [] ∧ ∃ v, (results fn a'.tmps).run P w' = .ok v w' ∧ ∃ v', Ending.returned v = .returned v' ∧ (w.heap.size ≤ w'.heap.size ∧ (∀ c, c < w.heap.size → ¬ G c → w'.heap[c]? = w.heap[c]?) ∧ w'.os = w.os ∧ w'.tape = w.tape ∧ w'.output = w.output ∧
      ∃ Fr F', ResRel w'.heap (fun _ => False) fx.res out.1 v' Fr ∧ ArgsRel w'.heap (fun c => c < w.heap.size ∧ ¬ G c) fx.ps out.2 args F' ∧
        (∀ c, Fr c → (G c ∨ w.heap.size ≤ c) ∧ c < w'.heap.size) ∧ (∀ c, F' c → (G c ∨ w.heap.size ≤ c) ∧ c < w'.heap.size) ∧ ∀ c, Fr c → ¬ F' c) := by
      intro h
      unfold outX at h
      split at h
      · rename_i x l y l' hres hleave
        obtain ⟨hnd, h⟩ := bif_some h
        cases h
        have hnd := List.nodup_append.1 ((nodupB_iff _).1 hnd)
        obtain ⟨v, h1, h2, h3⟩ := resD_rel ok.tab hr' hres hnd.1
        obtain ⟨k1, k2⟩ := leavePs_rel (Γ := ⟨w.heap, fun c => c < w.heap.size ∧ ¬ G c, m0, H0, F0, (enterPs 0 0 fx.ps ds).2⟩) (Δ := ⟨w'.heap, fun c => c < w.heap.size ∧ ¬ G c, m', H', F', st'.loc⟩) hr'.blk hr'.disj hr'.pin
          (fun c hc => (hr'.stab c hc).2) rfl fx.ps 0 ds y l' args hx hleave hnd.2.1 e0
        have inn : ∀ b k, st'.loc[b]? = some k → k.alive = true → ∀ c, F' b c → (G c ∨ w.heap.size ≤ c) ∧ c < w'.heap.size := fun b k hk ha c hc => by
          have := hr'.own b k hk ha c hc
          refine ⟨?_, this.1⟩
          by_cases hg : G c
          · exact .inl hg
          · exact .inr (Nat.le_of_not_lt fun hl => this.2 ⟨hl, hg⟩)
        refine ⟨hr'.defers, v, h1, v, rfl, hr'.grow, fun c h4 h5 => (hr'.stab c ⟨h4, h5⟩).2, hr'.os, hr'.tape, hr'.output, rowsF F' l, rowsF F' l', h2.noR hnr, k1, ?_, ?_, ?_⟩
        · rintro c ⟨b, hb, hc⟩
          obtain ⟨τ, xs, hl⟩ := h3 b hb
          exact inn b _ hl rfl c hc
        · rintro c ⟨b, hb, hc⟩
          obtain ⟨τ, xs, hl⟩ := k2 b hb
          exact inn b _ hl rfl c hc
        · rintro c ⟨b, hb, hc⟩ ⟨b', hb', hc'⟩
          obtain ⟨τ, xs, hl⟩ := h3 b hb
          obtain ⟨τ', xs', hl'⟩ := k2 b' hb'
          exact hr'.disj b b' _ _ hl hl' rfl rfl (hnd.2.2 b hb b' hb') c hc hc'
      · cases h
    cases e with
    | normal => exact fin he
    | ret => exact fin he
    | exit i => cases he
end fn
end Go.Fw
