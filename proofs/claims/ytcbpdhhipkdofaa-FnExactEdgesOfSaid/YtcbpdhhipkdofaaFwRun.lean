/- Code: what the interpreter takes, the machine does. No condition. -/
import Derived.Test.YtcbpdhhipkdofaaFwMat
namespace Go.Fw

def Ex.to : Ex → Exit
  | .normal => .normal
  | .ret => .ret
  | .exit id => .exit id

/-- The rounds of a loop, at most k. -/
def roundN (E : Tabs) (L : Nat → Option LP) (lm : LM) (n : Nat) (body : Code) : Nat → lm.head.D → Option (LRes lm.rets lm.out.D)
  | 0 => fun _ => none
  | k + 1 => round E L lm n body (roundN E L lm n body k)

/-- A loop's model is what its rounds give. -/
def LoopOK (E : Tabs) (L : Nat → Option LP) (n : Nat) (body : Code) (lm : LM) : Prop := ∀ x y, lm.run x = some y → ∃ k, roundN E L lm n body k x = some y

/-- All loops' models. -/
def LoopsOK (E : Tabs) (L : Nat → Option LP) (n : Nat) : Code → Prop
  | .seq a b => LoopsOK E L n a ∧ LoopsOK E L n b
  | .cond _ a b => LoopsOK E L n a ∧ LoopsOK E L n b
  | .block _ c => LoopsOK E L n c
  | .loop body => (∀ r lm, firstReg body = some r → L r = some (.lm lm) → LoopOK E L n body lm) ∧ LoopsOK E L n body
  | _ => True

theorem unroll_sound {R : Type} {res : R} {P : Program} {E : Tabs} {L : Nat → Option LP} {body : Code} {n : Nat} {w0 : W0} {S : Nat → Prop} {f : Ex → St → Option R} {Q : Exit → Act → World → Prop}
    (ih : ∀ (st : St) (f : Ex → St → Option R) (m : Nat → Nat) (H : Nat → Value) (F : Nat → Nat → Prop) (a : Act) (w : World) (Q : Exit → Act → World → Prop), st.n = n → exec E L body st f = some res → Rel w0 S m H F st a w →
      (∀ e st' m' H' F' a' w', st'.n = n → f e st' = some res → Rel w0 S m' H' F' st' a' w' → Q e.to a' w') → body.wp P Q a w)
    (hQ : ∀ e st' m' H' F' a' w', st'.n = n → f e st' = some res → Rel w0 S m' H' F' st' a' w' → Q e.to a' w') (k : Nat) {st : St} {m : Nat → Nat} {H : Nat → Value} {F : Nat → Nat → Prop} {a : Act} {w : World} (hn : st.n = n)
    (h : unrollK (fun st' g => exec E L body st' g) k st f = some res) (hr : Rel w0 S m H F st a w) : (Code.loop body).wp P Q a w := by
  refine wp_loop_ghost (fun k a w => ∃ (st : St) (m : Nat → Nat) (H : Nat → Value) (F : Nat → Nat → Prop), st.n = n ∧ unrollK (fun st' g => exec E L body st' g) k st f = some res ∧ Rel w0 S m H F st a w) k ⟨st, m, H, F, hn, h, hr⟩ ?_
  rintro k a w ⟨st, m, H, F, hn, h, hr⟩
  cases k with
  | zero => cases h
  | succ k =>
    simp only [unrollK] at h
    refine ih st _ m H F a w _ hn h hr fun e st' m' H' F' a' w' hn' he hr' => ?_
    cases e with
    | normal => exact ⟨k, Nat.lt_succ_self k, st', m', H', F', hn', he, hr'⟩
    | ret => exact hQ .ret st' m' H' F' a' w' hn' he hr'
    | exit i => exact hQ (.exit i) st' m' H' F' a' w' hn' he hr'

theorem endL_ret {R D : Type} {res : R} {enc : D → St} {ex : Nat} {f : Ex → St → Option R} : {r : Bool} → {y' : D} → {y : LRes r D} → mkRes r true y' = some y → endL enc ex f r y = some res → f .ret (enc y') = some res
  | true, _, _, h, h2 => by cases h; exact h2
  | false, _, _, h, _ => by cases h

theorem endL_exit {R D : Type} {res : R} {enc : D → St} {ex : Nat} {f : Ex → St → Option R} : {r : Bool} → {y' : D} → {y : LRes r D} → mkRes r false y' = some y → endL enc ex f r y = some res → f (.exit ex) (enc y') = some res
  | true, _, _, h, h2 => by cases h; exact h2
  | false, _, _, h, h2 => by cases h; exact h2

theorem exec_sound {P : Program} {E : Tabs} (ok : EnvOK P E) {L : Nat → Option LP} {w0 : W0} {S : Nat → Prop} {n : Nat} : ∀ (c : Code), LoopsOK E L n c → ∀ (R : Type) (res : R) (st : St) (f : Ex → St → Option R) (m : Nat → Nat) (H : Nat → Value) (F : Nat → Nat → Prop)
    (a : Act) (w : World) (Q : Exit → Act → World → Prop), st.n = n → exec E L c st f = some res → Rel w0 S m H F st a w →
    (∀ e st' m' H' F' a' w', st'.n = n → f e st' = some res → Rel w0 S m' H' F' st' a' w' → Q e.to a' w') → c.wp P Q a w := by
  intro c
  induction c with
  | skip => intro _ R res st f m H F a w Q hn h hr hQ; exact wp_skip (hQ .normal st m H F a w hn h hr)
  | region id ops draw =>
    intro _ R res st f m H F a w Q hn h hr hQ
    simp only [exec] at h
    have := regionK_sound (Q := Q) (id := id) ok h hr fun st' a w m H F hn' hf hr' => hQ .normal st' m H F a w (hn'.trans hn) hf hr'
    simpa using this
  | seq x y ihx ihy =>
    intro hL R res st f m H F a w Q hn h hr hQ
    simp only [exec] at h
    refine wp_seq (ihx hL.1 R res st _ m H F a w _ hn h hr fun e st' m' H' F' a' w' hn' he hr' => ?_)
    cases e with
    | normal => exact ihy hL.2 R res st' f m' H' F' a' w' Q hn' he hr' hQ
    | ret => exact hQ .ret st' m' H' F' a' w' hn' he hr'
    | exit i => exact hQ (.exit i) st' m' H' F' a' w' hn' he hr'
  | cond c x y ihx ihy =>
    intro hL R res st f m H F a w Q hn h hr hQ
    simp only [exec] at h
    split at h
    · rename_i t ht
      have hc : a.eval c = .bool t := by
        have := ev_rel hr c
        rw [ht] at this
        exact this
      have hlearn : ∀ b, t = b → Rel w0 S m H F (st.learn c b) a w := fun b e => by
        cases c with
        | tmp u => exact hr.learn (by rw [← e]; exact ht)
        | _ => exact hr
      have hln : ∀ b, (st.learn c b).n = n := fun b => by cases c <;> exact hn
      cases t
      · exact wp_cond_false hc (ihy hL.2 R res _ f m H F a w Q (hln _) h (hlearn _ rfl) hQ)
      · exact wp_cond_true hc (ihx hL.1 R res _ f m H F a w Q (hln _) h (hlearn _ rfl) hQ)
    · cases h
  | block id c ih =>
    intro hL R res st f m H F a w Q hn h hr hQ
    simp only [exec] at h
    refine wp_block (ih hL R res st _ m H F a w _ hn h hr fun e st' m' H' F' a' w' hn' he hr' => ?_)
    cases e with
    | normal => exact hQ .normal st' m' H' F' a' w' hn' he hr'
    | ret => exact hQ .ret st' m' H' F' a' w' hn' he hr'
    | exit i =>
      show (if i = id then Q .normal a' w' else Q (.exit i) a' w')
      simp only [] at he
      cases hb : Nat.beq i id
      · rw [hb] at he
        have : i ≠ id := fun e => by subst e; simp at hb
        rw [if_neg this]
        exact hQ (.exit i) st' m' H' F' a' w' hn' he hr'
      · rw [hb] at he
        rw [if_pos (Nat.eq_of_beq_eq_true hb)]
        exact hQ .normal st' m' H' F' a' w' hn' he hr'
  | loop body ih =>
    intro hL R res st f m H F a w Q hn h hr hQ
    simp only [exec] at h
    split at h
    · rename_i r hf
      split at h
      · rename_i lm hlm
        split at h
        · rename_i x hx
          cases hrun : lm.run x with
          | none => rw [hrun] at h; cases h
          | some y =>
            rw [hrun] at h
            simp only [Option.bind_some] at h
            obtain ⟨H1, F1, hr1⟩ := Rel.mat lm.mat H F st hr
            have hr2 := Sig.dec_rel hx hr1
            rw [St.mat_n, hn] at hr2
            rw [hn] at h
            obtain ⟨k, hk⟩ := hL.1 r lm hf hlm x y hrun
            refine wp_loop_ghost (fun k a w => ∃ (x : lm.head.D) (m : Nat → Nat) (H : Nat → Value) (F : Nat → Nat → Prop), roundN E L lm n body k x = some y ∧ Rel w0 S m H F (lm.head.enc n x) a w) k ⟨x, m, H1, F1, hk, hr2⟩ ?_
            rintro k a w ⟨x, m, H, F, hk, hr⟩
            cases k with
            | zero => cases hk
            | succ k =>
              simp only [roundN, round] at hk
              refine ih hL.2 _ y _ _ m H F a w _ rfl hk hr fun e st' m' H' F' a' w' hn' he hr' => ?_
              cases e with
              | normal =>
                simp only [] at he
                split at he
                · rename_i x' hx'
                  obtain ⟨H2, F2, hr3⟩ := Rel.mat lm.mat H' F' st' hr'
                  have hr4 := Sig.dec_rel hx' hr3
                  rw [St.mat_n, hn'] at hr4
                  exact ⟨k, Nat.lt_succ_self k, x', m', H2, F2, he, hr4⟩
                · cases he
              | ret =>
                simp only [] at he
                split at he
                · rename_i y' hy'
                  have hr4 := Sig.dec_rel hy' hr'
                  rw [hn'] at hr4
                  exact hQ .ret _ m' H' F' a' w' rfl (endL_ret he h) hr4
                · cases he
              | exit i =>
                simp only [] at he
                have h0 := bif_some he
                clear he
                obtain ⟨hi, he⟩ := h0
                have hi := Nat.eq_of_beq_eq_true hi
                subst hi
                split at he
                · rename_i y' hy'
                  have hr4 := Sig.dec_rel hy' hr'
                  rw [hn'] at hr4
                  exact hQ (.exit _) _ m' H' F' a' w' rfl (endL_exit he h) hr4
                · cases he
        · cases h
      · rename_i k hk
        exact unroll_sound (n := n) (fun st f m H F a w Q => ih hL.2 R res st f m H F a w Q) hQ k hn h hr
      · cases h
    · cases h
  | exit id => intro _ R res st f m H F a w Q hn h hr hQ; exact wp_exit (hQ (.exit id) st m H F a w hn h hr)
  | ret => intro _ R res st f m H F a w Q hn h hr hQ; exact wp_ret (hQ .ret st m H F a w hn h hr)
  | label l => intro _ R res st f m H F a w Q hn h hr hQ; exact wp_label (hQ .normal st m H F a w hn h hr)
  | goto _ => intro _ R res st f m H F a w Q hn h hr hQ; cases h
  | scope _ _ => intro _ R res st f m H F a w Q hn h hr hQ; cases h
  | refuse _ => intro _ R res st f m H F a w Q hn h hr hQ; cases h
  | rangeFunc _ _ _ _ => intro _ R res st f m H F a w Q hn h hr hQ; cases h

end Go.Fw
